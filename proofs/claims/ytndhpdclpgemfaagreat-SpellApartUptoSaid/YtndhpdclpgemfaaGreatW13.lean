/- Parts X54 of this seat (pruned, scripts that are alike kept once as default arguments: q1, q2, ..). Conditions: each says its own. -/
import Derived.Test.YtndhpdclpgemfaaGreatW12
namespace Go.Proofs.YtndhpdclpgemfaaGreat
open Go.RowKit Go.Shelf
set_option linter.unusedSimpArgs false
set_option linter.unusedVariables false
set_option maxRecDepth 100000
theorem cl_eq (a b : Clt) : eqB a b = ((a.kind == b.kind) && (((a.paths.length : Int) == b.paths.length) && (eqB a.whr b.whr && (eqB a.e b.e && ((a.var.toList == b.var.toList) && (((a.items.length : Int) == b.items.length) && ((a.uniq == b.uniq) && (((a.order.length : Int) == b.order.length) && (eqB a.skip b.skip && (eqB a.limit b.limit && (((a.sets.length : Int) == b.sets.length) && (decide (a.vars = b.vars) && ((a.detach == b.detach) && (eqB a.paths b.paths && (eqB a.items b.items && (eqB a.order b.order && eqB a.sets b.sets)))))))))))))))) := by
 refine eqB_of ⟨fun h => ?_, fun h => ?_⟩
 ·cases a; cases b
  simp only [Bool.and_eq_true, beq_iff_eq, eqB_iff, decide_eq_true_iff] at h
  obtain ⟨h0, -, h2, h3, h4, -, h6, -, h8, h9, -, h11, h12, h13, h14, h15, h16⟩ := h
  rw [Clt.mk.injEq]
  exact ⟨h0, h13, h2, h3, bytes_iff.1 (beq_iff_eq.2 h4), h14, h6, h15, h8, h9, h16, h11, h12⟩
 ·subst h; simp [eqB_refl]
theorem ten_of {B : Nat} {w : World} {cs : List Value} {t : Ex} (h : IsX B w cs t) : ∃ c0 c1 c2 c3 c4 c5 c6 c7 c8 c9 : Value, cs = [c0, c1, c2, c3, c4, c5, c6, c7, c8, c9] := by
 obtain ⟨op, nm, v, ns, az2⟩ := t
 obtain ⟨k, bo, i, s, l, ks, la, lc, ka, kc, na, nc, xa2, xc, -, rfl, -⟩ := h.cells
 exact ⟨_, _, _, _, _, _, _, _, _, _, rfl⟩
theorem Sg822388 {P : Prop} (h : P := by
 obtain ⟨b, off, cs, h1, h2, -, h3, xe, rfl, h5⟩ := h j t ht
 obtain ⟨c0, c1, c2, c3, c4, c5, c6, c7, c8, c9, rfl⟩ := ten_of h5
 first
 | (guard_hyp z822388a; have hc : ∀ (u : Ext C W0) (q : Nat) v, [c0, c1, c2, c3, c4, c5, c6, c7, c8, c9, .string t.nm][q]? = some v → u.w.cell? ⟨b, off + j * 11 + q, none⟩ = some v := fun u q v hv => ((hbe u).cell (p := ⟨b, off + j * 11 + q, none⟩) (by show b < _; omega)).trans (by rw [Nat.add_assoc]; exact h3 q v hv))
 | (have hc : ∀ (u : Ext C W0) (q : Nat) v, [c0, c1, c2, c3, c4, c5, c6, c7, c8, c9, .bool t.down][q]? = some v → u.w.cell? ⟨b, off + j * 11 + q, none⟩ = some v := fun u q v hv => ((hbe u).cell (p := ⟨b, off + j * 11 + q, none⟩) (by show b < _; omega)).trans (by rw [Nat.add_assoc]; exact h3 q v hv))
 exact ⟨b, off, _, _, _, _, _, _, _, _, _, _, h1, h2, fun u => hc u 0 _ rfl, fun u => hc u 1 _ rfl, fun u => hc u 2 _ rfl, fun u => hc u 3 _ rfl, fun u => hc u 4 _ rfl, fun u => hc u 5 _ rfl, fun u => hc u 6 _ rfl, fun u => hc u 7 _ rfl, fun u => hc u 8 _ rfl, fun u => hc u 9 _ rfl, fun u => hc u 10 _ rfl, fun u => IsX.below (hbe u) hB _ _ h5⟩) : P := h
theorem it_at {C B : Nat} {w W0 : World} {xa : Option Addr} {l : List Itt} (h : RowR (IsIt B w) 11 B w xa l) (hB : B ≤ w.heap.size) (hbe : ∀ u : Ext C W0, Below w.heap.size w u.w) {j : Nat} {t : Itt} (ht : l[j]? = some t) :
    ∃ b off, ∃ c0 c1 c2 c3 c4 c5 c6 c7 c8 c9 : Value, xa = some ⟨b, off, none⟩ ∧ b < B ∧ (∀ u : Ext C W0, u.w.cell? ⟨b, off + j * 11, none⟩ = some (c0)) ∧ (∀ u : Ext C W0, u.w.cell? ⟨b, off + j * 11 + 1, none⟩ = some (c1)) ∧ (∀ u : Ext C W0, u.w.cell? ⟨b, off + j * 11 + 2, none⟩ = some (c2)) ∧ (∀ u : Ext C W0, u.w.cell? ⟨b, off + j * 11 + 3, none⟩ = some (c3)) ∧ (∀ u : Ext C W0, u.w.cell? ⟨b, off + j * 11 + 4, none⟩ = some (c4)) ∧ (∀ u : Ext C W0, u.w.cell? ⟨b, off + j * 11 + 5, none⟩ = some (c5)) ∧ (∀ u : Ext C W0, u.w.cell? ⟨b, off + j * 11 + 6, none⟩ = some (c6)) ∧ (∀ u : Ext C W0, u.w.cell? ⟨b, off + j * 11 + 7, none⟩ = some (c7)) ∧ (∀ u : Ext C W0, u.w.cell? ⟨b, off + j * 11 + 8, none⟩ = some (c8)) ∧ (∀ u : Ext C W0, u.w.cell? ⟨b, off + j * 11 + 9, none⟩ = some (c9)) ∧ (∀ u : Ext C W0, u.w.cell? ⟨b, off + j * 11 + 10, none⟩ = some (.string t.nm)) ∧ ∀ u : Ext C W0, IsX B u.w [c0, c1, c2, c3, c4, c5, c6, c7, c8, c9] t.e := by
 have z822388a := trivial
 exact Sg822388
theorem so_at {C B : Nat} {w W0 : World} {xa : Option Addr} {l : List Sot} (h : RowR (IsSo B w) 11 B w xa l) (hB : B ≤ w.heap.size) (hbe : ∀ u : Ext C W0, Below w.heap.size w u.w) {j : Nat} {t : Sot} (ht : l[j]? = some t) :
    ∃ b off, ∃ c0 c1 c2 c3 c4 c5 c6 c7 c8 c9 : Value, xa = some ⟨b, off, none⟩ ∧ b < B ∧ (∀ u : Ext C W0, u.w.cell? ⟨b, off + j * 11, none⟩ = some (c0)) ∧ (∀ u : Ext C W0, u.w.cell? ⟨b, off + j * 11 + 1, none⟩ = some (c1)) ∧ (∀ u : Ext C W0, u.w.cell? ⟨b, off + j * 11 + 2, none⟩ = some (c2)) ∧ (∀ u : Ext C W0, u.w.cell? ⟨b, off + j * 11 + 3, none⟩ = some (c3)) ∧ (∀ u : Ext C W0, u.w.cell? ⟨b, off + j * 11 + 4, none⟩ = some (c4)) ∧ (∀ u : Ext C W0, u.w.cell? ⟨b, off + j * 11 + 5, none⟩ = some (c5)) ∧ (∀ u : Ext C W0, u.w.cell? ⟨b, off + j * 11 + 6, none⟩ = some (c6)) ∧ (∀ u : Ext C W0, u.w.cell? ⟨b, off + j * 11 + 7, none⟩ = some (c7)) ∧ (∀ u : Ext C W0, u.w.cell? ⟨b, off + j * 11 + 8, none⟩ = some (c8)) ∧ (∀ u : Ext C W0, u.w.cell? ⟨b, off + j * 11 + 9, none⟩ = some (c9)) ∧ (∀ u : Ext C W0, u.w.cell? ⟨b, off + j * 11 + 10, none⟩ = some (.bool t.down)) ∧ ∀ u : Ext C W0, IsX B u.w [c0, c1, c2, c3, c4, c5, c6, c7, c8, c9] t.e := Sg822388
theorem si_at {C B : Nat} {w W0 : World} {xa : Option Addr} {l : List Sit} (h : RowR (IsSi B w) 13 B w xa l) (hB : B ≤ w.heap.size) (hbe : ∀ u : Ext C W0, Below w.heap.size w u.w) {j : Nat} {t : Sit} (ht : l[j]? = some t) :
    ∃ b off, ∃ c0 c1 c2 c3 c4 c5 c6 c7 c8 c9 : Value, xa = some ⟨b, off, none⟩ ∧ b < B ∧ (∀ u : Ext C W0, u.w.rangeAt b (off + j * 13) [.string t.var, .string t.key, .string t.label, c0, c1, c2, c3, c4, c5, c6, c7, c8, c9]) ∧ ∀ u : Ext C W0, IsX B u.w [c0, c1, c2, c3, c4, c5, c6, c7, c8, c9] t.e := by
 obtain ⟨b, off, cs, h1, h2, -, h3, xe, rfl, h5⟩ := h j t ht
 obtain ⟨c0, c1, c2, c3, c4, c5, c6, c7, c8, c9, rfl⟩ := ten_of h5
 have hc : ∀ (u : Ext C W0) (q : Nat) v, [.string t.var, .string t.key, .string t.label, c0, c1, c2, c3, c4, c5, c6, c7, c8, c9][q]? = some v → u.w.cell? ⟨b, off + j * 13 + q, none⟩ = some v := fun u q v hv => ((hbe u).cell (p := ⟨b, off + j * 13 + q, none⟩) (by show b < _; omega)).trans (by rw [Nat.add_assoc]; exact h3 q v hv)
 exact ⟨b, off, _, _, _, _, _, _, _, _, _, _, h1, h2, fun u q v hv => hc u q v hv, fun u => IsX.below (hbe u) hB _ _ h5⟩
theorem cl_le {c : Clt} {K : Nat} (h : wtCl c ≤ K) : c.paths.length ≤ K ∧ c.whr.length ≤ K ∧ c.items.length ≤ K ∧ c.order.length ≤ K ∧ c.skip.length ≤ K ∧ c.limit.length ≤ K ∧ c.sets.length ≤ K ∧ c.vars.length ≤ K ∧ (∀ x ∈ c.paths, wtPt x ≤ K) ∧ wtXs c.whr ≤ K ∧ wtX c.e ≤ K ∧ wtXs c.skip ≤ K ∧ wtXs c.limit ≤ K ∧ (∀ x ∈ c.items, wtX x.e ≤ K) ∧ (∀ x ∈ c.order, wtX x.e ≤ K) ∧ ∀ x ∈ c.sets, wtX x.e ≤ K := by
 have h1 := len_sum (f := wtPt) (fun x => by unfold wtPt; omega) c.paths
 have h2 := wtXs_len c.whr
 have h3 := len_sum (f := wtIt) (fun x => by unfold wtIt; omega) c.items
 have h4 := len_sum (f := wtSo) (fun x => by unfold wtSo; omega) c.order
 have h5 := wtXs_len c.skip
 have h6 := wtXs_len c.limit
 have h7 := len_sum (f := wtSi) (fun x => by unfold wtSi; omega) c.sets
 have h8 := wtS_len c.vars
 unfold wtCl at h
 refine ⟨by omega, by omega, by omega, by omega, by omega, by omega, by omega, by omega, fun x hx => ?_, by omega, by omega, by omega, by omega, fun x hx => ?_, fun x hx => ?_, fun x hx => ?_⟩
 ·have := sum_mem (f := wtPt) hx; omega
 ·have h9 := sum_mem (f := wtIt) hx; have h10 : wtX x.e ≤ wtIt x := by unfold wtIt; omega
  omega
 ·have h9 := sum_mem (f := wtSo) hx; have h10 : wtX x.e ≤ wtSo x := by unfold wtSo; omega
  omega
 ·have h9 := sum_mem (f := wtSi) hx; have h10 : wtX x.e ≤ wtSi x := by unfold wtSi; omega
  omega
theorem it_eq {x y : Itt} (h0 : (x.nm.toList == y.nm.toList) = true) (h1 : x.e = y.e) : x = y := by cases x; cases y; simp only [Itt.mk.injEq]; exact ⟨h1, bytes_iff.1 h0⟩
theorem so_eq {x y : Sot} (h0 : (x.down == y.down) = true) (h1 : x.e = y.e) : x = y := by cases x; cases y; simp only [Sot.mk.injEq]; exact ⟨h1, eq_of_beq h0⟩
theorem si_eq {x y : Sit} (h0 : (x.var.toList == y.var.toList) = true) (h1 : (x.key.toList == y.key.toList) = true) (h2 : (x.label.toList == y.label.toList) = true) (h3 : x.e = y.e) : x = y := by cases x; cases y; simp only [Sit.mk.injEq]; exact ⟨bytes_iff.1 h0, bytes_iff.1 h1, bytes_iff.1 h2, h3⟩
theorem bx13 {w : World} {b : Nat} {x0 x1 x2 x3 x4 x5 x6 x7 x8 x9 x10 x11 x12 : Value} {t : TypeId} (h : Hid (Block w b [x0, x1, x2, x3, x4, x5, x6, x7, x8, x9, x10, x11, x12] t)) : (∀ v : Ext w.heap.size w, v.w.cell? ⟨b, 0, none⟩ = some x0) ∧ (∀ v : Ext w.heap.size w, v.w.cell? ⟨b, 1, none⟩ = some x1) ∧ (∀ v : Ext w.heap.size w, v.w.cell? ⟨b, 2, none⟩ = some x2) ∧ (∀ v : Ext w.heap.size w, v.w.cell? ⟨b, 3, none⟩ = some x3) ∧ (∀ v : Ext w.heap.size w, v.w.cell? ⟨b, 4, none⟩ = some x4) ∧ (∀ v : Ext w.heap.size w, v.w.cell? ⟨b, 5, none⟩ = some x5) ∧ (∀ v : Ext w.heap.size w, v.w.cell? ⟨b, 6, none⟩ = some x6) ∧ (∀ v : Ext w.heap.size w, v.w.cell? ⟨b, 7, none⟩ = some x7) ∧ (∀ v : Ext w.heap.size w, v.w.cell? ⟨b, 8, none⟩ = some x8) ∧ (∀ v : Ext w.heap.size w, v.w.cell? ⟨b, 9, none⟩ = some x9) ∧ (∀ v : Ext w.heap.size w, v.w.cell? ⟨b, 10, none⟩ = some x10) ∧ (∀ v : Ext w.heap.size w, v.w.cell? ⟨b, 11, none⟩ = some x11) ∧ (∀ v : Ext w.heap.size w, v.w.cell? ⟨b, 12, none⟩ = some x12) :=
  ⟨cy_one _ (h.out.cell (i := 0) rfl) h.out.lt, cy_one _ (h.out.cell (i := 1) rfl) h.out.lt, cy_one _ (h.out.cell (i := 2) rfl) h.out.lt, cy_one _ (h.out.cell (i := 3) rfl) h.out.lt, cy_one _ (h.out.cell (i := 4) rfl) h.out.lt, cy_one _ (h.out.cell (i := 5) rfl) h.out.lt, cy_one _ (h.out.cell (i := 6) rfl) h.out.lt, cy_one _ (h.out.cell (i := 7) rfl) h.out.lt, cy_one _ (h.out.cell (i := 8) rfl) h.out.lt, cy_one _ (h.out.cell (i := 9) rfl) h.out.lt, cy_one _ (h.out.cell (i := 10) rfl) h.out.lt, cy_one _ (h.out.cell (i := 11) rfl) h.out.lt, cy_one _ (h.out.cell (i := 12) rfl) h.out.lt⟩
theorem ten_one {B : Nat} {w : World} {c0 c1 c2 c3 c4 c5 c6 c7 c8 c9 : Value} {t : Ex} (h : IsX B w [c0, c1, c2, c3, c4, c5, c6, c7, c8, c9] t) : c0.oneCell' = true ∧ c1.oneCell' = true ∧ c2.oneCell' = true ∧ c3.oneCell' = true ∧ c4.oneCell' = true ∧ c5.oneCell' = true ∧ c6.oneCell' = true ∧ c7.oneCell' = true ∧ c8.oneCell' = true ∧ c9.oneCell' = true := by
 obtain ⟨op, nm, v, ns, az2⟩ := t
 obtain ⟨k, bo, i, s, l, ks, la, lc, ka, kc, na, nc, xa2, xc, -, he, -⟩ := h.cells
 simp only [List.cons.injEq] at he
 obtain ⟨rfl, rfl, rfl, rfl, rfl, rfl, rfl, rfl, rfl, rfl, -⟩ := he
 exact ⟨rfl, rfl, rfl, rfl, rfl, rfl, rfl, rfl, rfl, rfl⟩
theorem si_one {B : Nat} {w : World} {c0 c1 c2 c3 c4 c5 c6 c7 c8 c9 : Value} {t : Ex} {p q r : ByteArray} (h : IsX B w [c0, c1, c2, c3, c4, c5, c6, c7, c8, c9] t) : (#[.string p, .string q, .string r, c0, c1, c2, c3, c4, c5, c6, c7, c8, c9] : Array Value).all (·.oneCell') = true := by
 obtain ⟨o0, o1, o2, o3, o4, o5, o6, o7, o8, o9⟩ := ten_one h
 refine all_oneCell_toArray (cs := [.string p, .string q, .string r, c0, c1, c2, c3, c4, c5, c6, c7, c8, c9]) fun v hv => ?_
 simp only [List.mem_cons, List.not_mem_nil, or_false] at hv
 rcases hv with rfl | rfl | rfl | rfl | rfl | rfl | rfl | rfl | rfl | rfl | rfl | rfl | rfl <;> first | rfl | assumption
theorem Sg555960 {P : Prop} (h : P := by
 go_enter Tryz.func55, Tryz.ntmps55
 go_upto_region 1 with fail
 rw [HW0.out, HU0.out]
 simp only [List.append_eq, List.cons_append, List.nil_append]
 clear HW0 HU0
 go_wp2_with (first | (go_at_call 108; refine (HCE.out _).mono ?_; rintro e w2 ⟨rfl, ue, rfl⟩) | (go_at_call 105; refine (HC11.out _).mono ?_; rintro e w2 ⟨rfl, un1, rfl⟩) | (go_at_call 107; (with_reducible refine (HC2.out _).mono ?_); rintro e w2 ⟨rfl, u2, rfl⟩) | (go_at_call 107; (with_reducible refine (HC8.out _).mono ?_); rintro e w2 ⟨rfl, u8, rfl⟩) | (go_at_call 107; (with_reducible refine (HC9.out _).mono ?_); rintro e w2 ⟨rfl, u9, rfl⟩))
 go_ret
 exact ⟨by rfl, HBE.out _⟩) : P := h
theorem Sg678152 {P : Prop} (h : P := by
 first
 |(
  guard_hyp z678152a
  first
  | (guard_hyp z554685a; have HXY : Hid (x = y) := Lib.hid (it_eq hts (eqB_iff.1 hr)))
  | (have HXY : Hid (x = y) := Lib.hid (so_eq hts (eqB_iff.1 hr)))
  clear hr hx hy hx1 hy1)
 |(
  have HXY := Lib.hid (eqB_iff.1 hr)
  clear hr hx hy hx1 hy1 g f)
 go_wp2_with (refine wp_region_at _ (by kernel_rfl) (by kernel_rfl) ?_; (repeat (go_big_quiet_step (with_reducible exact HC.out _))); refine wpQuiet_nil ?_; rintro w9 ⟨u9, rfl⟩)
 go_round
 case rel => exact ⟨j + 1, _, by go_num, by omega, Lib.hid (by rw [take_succ_get HX.out, take_succ_get HY.out, HALL.out, HXY.out]), rfl⟩
 case measure => simp [intOf]; omega) : P := h
theorem Sg497667 {P : Prop} (h : P := by
 have HXY : Hid (x ≠ y) := Lib.hid (fun h => by rw [h, eqB_refl] at hr; cases hr)
 first
 | (guard_hyp z497667b; clear hr hx hy hx1 hy1 g f)
 | (clear hr hx hy hx1 hy1)
 go_wp2_with (refine wp_region_at _ (by kernel_rfl) (by kernel_rfl) ?_; (repeat (go_big_quiet_step (with_reducible exact HC.out _))); refine wpQuiet_nil ?_; rintro w9 ⟨u9, rfl⟩)
 go_ret
 first
 |(
  guard_hyp z497667a
  first
  |(
   guard_hyp z554685a
   have hp2 : p2 = false := HP2.out.symm.trans (not_same HX.out HY.out HXY.out)
   subst hp2)
  |(
   have hp3 : p3 = false := HP3.out.symm.trans (not_same HX.out HY.out HXY.out)
   subst hp3))
 |(
  have hp1 : p1 = false := HP1.out.symm.trans (not_same HX.out HY.out HXY.out)
  subst hp1)
 exact ⟨by rfl, HBE.out _⟩) : P := h
theorem Sg255665 {P : Prop} (h : P := by
 have HXY : Hid (x ≠ y) := Lib.hid (fun h => by subst h; simp at hts)
 clear hr hx hy hx1 hy1
 go_wp2_with (refine wp_region_at _ (by kernel_rfl) (by kernel_rfl) ?_; (repeat (go_big_quiet_step (with_reducible exact HC.out _))); refine wpQuiet_nil ?_; rintro w9 ⟨u9, rfl⟩)
 go_ret
 first
 |(
  guard_hyp z255665a
  have hp2 : p2 = false := HP2.out.symm.trans (not_same HX.out HY.out HXY.out)
  subst hp2)
 |(
  have hp3 : p3 = false := HP3.out.symm.trans (not_same HX.out HY.out HXY.out)
  subst hp3)
 exact ⟨by rfl, HBE.out _⟩) : P := h
theorem Sg554685 {P : Prop} (h : P := by
 cases r with
 | true =>
  have z678152a := trivial
  exact Sg678152
 | false =>
  have z497667a := trivial
  exact Sg497667) : P := h
set_option maxHeartbeats 64000000 in
theorem sameClause_any (a b : Clt) (cs ds : List Value) (B : Nat) (w : World) (hX : IsCl B w cs a) (hY : IsCl B w ds b) (hB : B ≤ w.heap.size) (hwp : wtCl a ≤ 1099511627776) (hwq : wtCl b ≤ 1099511627776) :
    Calls Tryz.prog 55 #[.agg cs.toArray, .agg ds.toArray] w fun e w' => e = .returned (.bool (eqB a b)) ∧ Below w.heap.size w w' := by
 rw [cl_eq]
 obtain ⟨kdp, l1p, l2p, exp, vrp, l5p, unp, l7p, l8p, l9p, l10p, l11p, dep⟩ := a
 obtain ⟨a1p, c1p, a2p, c2p, xep, a5p, c5p, a7p, c7p, a8p, c8p, a9p, c9p, a10p, c10p, a11p, c11p, rfl, -, -, r1p, -, r2p, hEp, -, r5p, -, r7p, -, r8p, -, r9p, -, r10p, -, r11p⟩ := hX
 simp only at r1p r2p hEp r5p r7p r8p r9p r10p r11p
 obtain ⟨ln1p, ln2p, ln5p, ln7p, ln8p, ln9p, ln10p, ln11p, wpp, w2p, wep, w8p, w9p, wip, wop, wzp⟩ := cl_le hwp
 simp only at ln1p ln2p ln5p ln7p ln8p ln9p ln10p ln11p wpp w2p wep w8p w9p wip wop wzp
 obtain ⟨kdq, l1q, l2q, exq, vrq, l5q, unq, l7q, l8q, l9q, l10q, l11q, deq⟩ := b
 obtain ⟨a1q, c1q, a2q, c2q, xeq, a5q, c5q, a7q, c7q, a8q, c8q, a9q, c9q, a10q, c10q, a11q, c11q, rfl, -, -, r1q, -, r2q, hEq, -, r5q, -, r7q, -, r8q, -, r9q, -, r10q, -, r11q⟩ := hY
 simp only at r1q r2q hEq r5q r7q r8q r9q r10q r11q
 obtain ⟨ln1q, ln2q, ln5q, ln7q, ln8q, ln9q, ln10q, ln11q, wpq, w2q, weq, w8q, w9q, wiq, woq, wzq⟩ := cl_le hwq
 simp only at ln1q ln2q ln5q ln7q ln8q ln9q ln10q ln11q wpq w2q weq w8q w9q wiq woq wzq
 simp only
 have hE0p := hEp
 have hE0q := hEq
 obtain ⟨eep, heep⟩ := nam exp
 rw [heep] at hE0p wep
 obtain ⟨opp, nmp, vp, nsp, azp⟩ := exp
 obtain ⟨kp, bbp, ip, sp, lvp, ksp, lap, lcp, kap, kcp, nap, ncp, xap, xcp, -, rfl, -⟩ := hEp.cells
 rw [heep]
 clear heep hEp
 obtain ⟨eeq, heeq⟩ := nam exq
 rw [heeq] at hE0q weq
 obtain ⟨opq, nmq, vq, nsq, azq⟩ := exq
 obtain ⟨kq, bbq, iq, sq, lvq, ksq, laq, lcq, kaq, kcq, naq, ncq, xaq, xcq, -, rfl, -⟩ := hEq.cells
 rw [heeq]
 clear heeq hEq
 simp only [List.cons_append, List.nil_append] at hE0p hE0q ⊢
 generalize lvp.length = llp at *
 generalize ksp.length = knp at *
 generalize nsp.length = nnp at *
 generalize azp.length = xnp at *
 obtain ⟨n1p, hn1p⟩ := nam l1p.length
 obtain ⟨n2p, hn2p⟩ := nam l2p.length
 obtain ⟨n5p, hn5p⟩ := nam l5p.length
 obtain ⟨n7p, hn7p⟩ := nam l7p.length
 obtain ⟨n8p, hn8p⟩ := nam l8p.length
 obtain ⟨n9p, hn9p⟩ := nam l9p.length
 obtain ⟨n10p, hn10p⟩ := nam l10p.length
 obtain ⟨n11p, hn11p⟩ := nam l11p.length
 generalize lvq.length = llq at *
 generalize ksq.length = knq at *
 generalize nsq.length = nnq at *
 generalize azq.length = xnq at *
 obtain ⟨n1q, hn1q⟩ := nam l1q.length
 obtain ⟨n2q, hn2q⟩ := nam l2q.length
 obtain ⟨n5q, hn5q⟩ := nam l5q.length
 obtain ⟨n7q, hn7q⟩ := nam l7q.length
 obtain ⟨n8q, hn8q⟩ := nam l8q.length
 obtain ⟨n9q, hn9q⟩ := nam l9q.length
 obtain ⟨n10q, hn10q⟩ := nam l10q.length
 obtain ⟨n11q, hn11q⟩ := nam l11q.length
 rw [hn1p, hn1q, hn5p, hn5q, hn7p, hn7q, hn10p, hn10q]
 rw [hn2p, hn8p, hn9p, hn11p, hn2q, hn8q, hn9q, hn11q]
 obtain ⟨W0, u0, HW0, HU0, HSZ, HBE, hc1, hc2⟩ := box2 w [.int .i64 kdp, .slice a1p n1p c1p, .slice a2p n2p c2p, .int .i64 opp, .string nmp, .int .i64 kp, .bool bbp, .int .i64 ip, .string sp, .slice lap llp lcp, .slice kap knp kcp, .slice nap nnp ncp, .slice xap xnp xcp, .string vrp, .slice a5p n5p c5p, .bool unp, .slice a7p n7p c7p, .slice a8p n8p c8p, .slice a9p n9p c9p, .slice a10p n10p c10p, .slice a11p n11p c11p, .bool dep] [.int .i64 kdq, .slice a1q n1q c1q, .slice a2q n2q c2q, .int .i64 opq, .string nmq, .int .i64 kq, .bool bbq, .int .i64 iq, .string sq, .slice laq llq lcq, .slice kaq knq kcq, .slice naq nnq ncq, .slice xaq xnq xcq, .string vrq, .slice a5q n5q c5q, .bool unq, .slice a7q n7q c7q, .slice a8q n8q c8q, .slice a9q n9q c9q, .slice a10q n10q c10q, .slice a11q n11q c11q, .bool deq] 42 42
 have HBB := Lib.hid (fun u => Nat.le_trans hB (HBE.out u).size)
 obtain ⟨e0, e1, e2, e3, e4, e5, e6, e7, e8, e9, e10, e11, e12, e13, e14, e15, e16, e17, e18, e19, e20, e21⟩ := cl22 hc1
 obtain ⟨f0, f1, f2, f3, f4, f5, f6, f7, f8, f9, f10, f11, f12, f13, f14, f15, f16, f17, f18, f19, f20, f21⟩ := cl22 hc2
 clear hc1 hc2
 have HC2 := Lib.hid (fun u : Ext (w.heap.size + 2) W0 => ext_call u HSZ.out (sameXs_of l2p (fun t _ => sameX_any t) l2q a2p a2q c2p c2q B u.w (r2p.below (HBE.out u) hB (fun _ _ h => IsX.below (HBE.out u) hB _ _ h)) (r2q.below (HBE.out u) hB (fun _ _ h => IsX.below (HBE.out u) hB _ _ h)) (HBB.out u) w2p w2q))
 rw [hn2p, hn2q] at HC2
 have HC8 := Lib.hid (fun u : Ext (w.heap.size + 2) W0 => ext_call u HSZ.out (sameXs_of l8p (fun t _ => sameX_any t) l8q a8p a8q c8p c8q B u.w (r8p.below (HBE.out u) hB (fun _ _ h => IsX.below (HBE.out u) hB _ _ h)) (r8q.below (HBE.out u) hB (fun _ _ h => IsX.below (HBE.out u) hB _ _ h)) (HBB.out u) w8p w8q))
 rw [hn8p, hn8q] at HC8
 have HC9 := Lib.hid (fun u : Ext (w.heap.size + 2) W0 => ext_call u HSZ.out (sameXs_of l9p (fun t _ => sameX_any t) l9q a9p a9q c9p c9q B u.w (r9p.below (HBE.out u) hB (fun _ _ h => IsX.below (HBE.out u) hB _ _ h)) (r9q.below (HBE.out u) hB (fun _ _ h => IsX.below (HBE.out u) hB _ _ h)) (HBB.out u) w9p w9q))
 rw [hn9p, hn9q] at HC9
 have HCE := Lib.hid (fun u : Ext (w.heap.size + 2) W0 => ext_call u HSZ.out (sameX_any eep eeq _ _ B u.w (IsX.below (HBE.out u) hB _ _ hE0p) (IsX.below (HBE.out u) hB _ _ hE0q) (HBB.out u) wep weq))
 have HC11 := Lib.hid (fun u : Ext (w.heap.size + 2) W0 => ext_call u HSZ.out (sameNames_any l11p l11q a11p a11q c11p c11q B u.w (r11p.below (HBE.out u) hB) (r11q.below (HBE.out u) hB) (HBB.out u) (by omega) (by omega)))
 rw [hn11p, hn11q] at HC11
 obtain ⟨t0, h0⟩ := nam ((kdp == kdq))
 have m0 : (kdp != kdq) = !t0 := by rw [← h0]; rfl
 obtain ⟨t1, h1⟩ : ∃ r, ((n1p : Int) == n1q) = r := ⟨_, rfl⟩
 have m1 : ((n1p : Int) != n1q) = !t1 := by rw [← h1]; rfl
 obtain ⟨t2, h2⟩ := nam (eqB l2p l2q)
 rw [h2] at HC2
 obtain ⟨t3, h3⟩ := nam (eqB eep eeq)
 rw [h3] at HCE
 obtain ⟨t4, h4⟩ := nam ((vrp.toList == vrq.toList))
 obtain ⟨t5, h5⟩ : ∃ r, ((n5p : Int) == n5q) = r := ⟨_, rfl⟩
 have m5 : ((n5p : Int) != n5q) = !t5 := by rw [← h5]; rfl
 obtain ⟨t6, h6⟩ := nam ((unp == unq))
 have m6 : (unp != unq) = !t6 := by rw [← h6]; rfl
 obtain ⟨t7, h7⟩ : ∃ r, ((n7p : Int) == n7q) = r := ⟨_, rfl⟩
 have m7 : ((n7p : Int) != n7q) = !t7 := by rw [← h7]; rfl
 obtain ⟨t8, h8⟩ := nam (eqB l8p l8q)
 rw [h8] at HC8
 obtain ⟨t9, h9⟩ := nam (eqB l9p l9q)
 rw [h9] at HC9
 obtain ⟨t10, h10⟩ : ∃ r, ((n10p : Int) == n10q) = r := ⟨_, rfl⟩
 have m10 : ((n10p : Int) != n10q) = !t10 := by rw [← h10]; rfl
 obtain ⟨t11, h11⟩ := nam (decide (l11p = l11q))
 rw [h11] at HC11
 obtain ⟨t12, h12⟩ := nam ((dep == deq))
 have m12 : (dep != deq) = !t12 := by rw [← h12]; rfl
 obtain ⟨p1, hp1⟩ := nam (eqB l1p l1q)
 obtain ⟨p2, hp2⟩ := nam (eqB l5p l5q)
 obtain ⟨p3, hp3⟩ := nam (eqB l7p l7q)
 obtain ⟨p4, hp4⟩ := nam (eqB l10p l10q)
 rw [h0, h1, h2, h3, h4, h5, h6, h7, h8, h9, h10, h11, h12, hp1, hp2, hp3, hp4]
 have HR1p := Lib.hid (fun (j : Nat) x (hx : l1p[j]? = some x) => row_at (C := w.heap.size + 2) (W0 := W0) r1p (fun u cs x h => h.below (HBE.out u) hB) hB HBE.out hx)
 have HR1q := Lib.hid (fun (j : Nat) x (hx : l1q[j]? = some x) => row_at (C := w.heap.size + 2) (W0 := W0) r1q (fun u cs x h => h.below (HBE.out u) hB) hB HBE.out hx)
 have HR5p := Lib.hid (fun (j : Nat) x (hx : l5p[j]? = some x) => it_at (C := w.heap.size + 2) (W0 := W0) r5p hB HBE.out hx)
 have HR5q := Lib.hid (fun (j : Nat) x (hx : l5q[j]? = some x) => it_at (C := w.heap.size + 2) (W0 := W0) r5q hB HBE.out hx)
 have HR7p := Lib.hid (fun (j : Nat) x (hx : l7p[j]? = some x) => so_at (C := w.heap.size + 2) (W0 := W0) r7p hB HBE.out hx)
 have HR7q := Lib.hid (fun (j : Nat) x (hx : l7q[j]? = some x) => so_at (C := w.heap.size + 2) (W0 := W0) r7q hB HBE.out hx)
 have HR10p := Lib.hid (fun (j : Nat) x (hx : l10p[j]? = some x) => si_at (C := w.heap.size + 2) (W0 := W0) r10p hB HBE.out hx)
 have HR10q := Lib.hid (fun (j : Nat) x (hx : l10q[j]? = some x) => si_at (C := w.heap.size + 2) (W0 := W0) r10q hB HBE.out hx)
 have HN1 := Lib.hid (And.intro hn1p hn1q)
 have HN5 := Lib.hid (And.intro hn5p hn5q)
 have HN7 := Lib.hid (And.intro hn7p hn7q)
 have HN10 := Lib.hid (And.intro hn10p hn10q)
 have HWP := Lib.hid (And.intro wpp wpq)
 have HWI := Lib.hid (And.intro wip wiq)
 have HWO := Lib.hid (And.intro wop woq)
 have HWZ := Lib.hid (And.intro wzp wzq)
 obtain ⟨HP1, HP2, HP3, HP4, HI1, HI5, HI7, HI10⟩ := hd8 hp1 hp2 hp3 hp4 h1 h5 h7 h10
 clear h2 h3 h8 h9 h11 hp1 hp2 hp3 hp4 r1p r1q r2p r2q r5p r5q r7p r7q r8p r8q r9p r9q r10p r10q r11p r11q hn1p hn1q hn2p hn2q hn5p hn5q hn7p hn7q hn8p hn8q hn9p hn9q hn10p hn10q hn11p hn11q hE0p hE0q wpp wpq wip wiq wop woq wzp wzq w2p w2q w8p w8q w9p w9q wep weq hwp hwq
 cases t0
 ·exact Sg555960
 cases t1
 ·exact Sg555960
 cases t2
 ·exact Sg555960
 cases t3
 ·exact Sg555960
 cases t4
 ·exact Sg555960
 cases t5
 ·exact Sg555960
 cases t6
 ·exact Sg555960
 cases t7
 ·exact Sg555960
 cases t8
 ·exact Sg555960
 cases t9
 ·exact Sg555960
 cases t10
 ·exact Sg555960
 cases t11
 ·exact Sg555960
 cases t12
 ·exact Sg555960
 go_enter Tryz.func55, Tryz.ntmps55
 go_upto_region 1 with fail
 rw [HW0.out, HU0.out]
 simp only [List.append_eq, List.cons_append, List.nil_append]
 clear HW0 HU0
 go_wp2_with (first | (go_at_call 108; refine (HCE.out _).mono ?_; rintro e w2 ⟨rfl, ue, rfl⟩) | (go_at_call 105; refine (HC11.out _).mono ?_; rintro e w2 ⟨rfl, un1, rfl⟩) | (go_at_call 107; (with_reducible refine (HC2.out _).mono ?_); rintro e w2 ⟨rfl, u2, rfl⟩) | (go_at_call 107; (with_reducible refine (HC8.out _).mono ?_); rintro e w2 ⟨rfl, u8, rfl⟩) | (go_at_call 107; (with_reducible refine (HC9.out _).mono ?_); rintro e w2 ⟨rfl, u9, rfl⟩))
 have hjn : n1p = n1q := by have h := HI1.out; simp at h; omega
 subst hjn
 go_loopw [5] (fun iv wr => ∃ (j : Nat) (u : Ext (w.heap.size + 2) W0), iv = .int .i64 j ∧ j ≤ n1p ∧ Hid (l1p.take j = l1q.take j) ∧ wr = u.w) (fun iv _ => n1p - (intOf iv).toNat)
 case atStart => exact ⟨0, _, rfl, Nat.zero_le _, Lib.hid rfl, rfl⟩
 case round =>
  obtain ⟨j, u, rfl, hj, HALL, rfl⟩ := hrel
  by_cases hlt : j < n1p
  ·have hlt' : (j : Int) < n1p := by omega
   have hj0 : (0 : Int) ≤ (j : Int) := by omega
   have hwi : IntKind.i64.wrap ((j : Int) + 1) = (j : Int) + 1 := IntWalk.i64_in _ (by have := HN1.out.1; omega)
   obtain ⟨x, hx⟩ := get_some (l := l1p) (j := j) (by have := HN1.out.1; omega)
   obtain ⟨y, hy⟩ := get_some (l := l1q) (j := j) (by have := HN1.out.2; omega)
   obtain ⟨b1, o1, cs1, rfl, hb1, g, hx1⟩ := HR1p.out j x hx
   obtain ⟨b2, o2, cs2, rfl, hb2, f, hy1⟩ := HR1q.out j y hy
   have HC := Lib.hid (fun u => ext_call u HSZ.out (samePath_any x y cs1 cs2 B u.w (hx1 u) (hy1 u) (HBB.out u) (HWP.out.1 x (List.mem_of_getElem? hx)) (HWP.out.2 y (List.mem_of_getElem? hy))))
   obtain ⟨na1, nc1, ea1, ec1, rfl, -⟩ := hx1 u
   obtain ⟨na2, nc2, ea2, ec2, rfl, -⟩ := hy1 u
   have g0 : ∀ u : Ext (w.heap.size + 2) W0, u.w.cell? ⟨b1, o1 + j * 2, none⟩ = some _ := fun u => g u 0 _ rfl
   have g1 := fun u => g u 1 _ rfl
   have d0 : ∀ u : Ext (w.heap.size + 2) W0, u.w.cell? ⟨b2, o2 + j * 2, none⟩ = some _ := fun u => f u 0 _ rfl
   have d1 := fun u => f u 1 _ rfl
   obtain ⟨r, hr⟩ := nam (eqB x y)
   rw [hr] at HC
   have HX := Lib.hid hx
   have HY := Lib.hid hy
   cases r with
   | true =>
    exact Sg678152
   | false =>
    have z497667b := trivial
    exact Sg497667
  ·have hlt' : ¬ (j : Int) < n1p := by omega
   go_wp2_with fail
   have hp1 : p1 = true := by rw [← HP1.out, eqB_iff]; have h := HALL.out; rwa [List.take_of_length_le (by have := HN1.out.1; omega), List.take_of_length_le (by have := HN1.out.2; omega)] at h
   subst hp1
   clear HALL hj hlt hlt'
   have hjn : n5p = n5q := by have h := HI5.out; simp at h; omega
   subst hjn
   go_loopw [6] (fun iv wr => ∃ (j : Nat) (u : Ext (w.heap.size + 2) W0), iv = .int .i64 j ∧ j ≤ n5p ∧ Hid (l5p.take j = l5q.take j) ∧ wr = u.w) (fun iv _ => n5p - (intOf iv).toNat)
   case atStart => exact ⟨0, _, rfl, Nat.zero_le _, Lib.hid rfl, rfl⟩
   case round =>
    obtain ⟨j, u, rfl, hj, HALL, rfl⟩ := hrel
    by_cases hlt : j < n5p
    ·have hlt' : (j : Int) < n5p := by omega
     have hj0 : (0 : Int) ≤ (j : Int) := by omega
     have hwi : IntKind.i64.wrap ((j : Int) + 1) = (j : Int) + 1 := IntWalk.i64_in _ (by have := HN5.out.1; omega)
     obtain ⟨x, hx⟩ := get_some (l := l5p) (j := j) (by have := HN5.out.1; omega)
     obtain ⟨y, hy⟩ := get_some (l := l5q) (j := j) (by have := HN5.out.2; omega)
     obtain ⟨b1, o1, c0, c1, c2, c3, c4, c5, c6, c7, c8, c9, rfl, hb1, g0, g1, g2, g3, g4, g5, g6, g7, g8, g9, g10, hx1⟩ := HR5p.out j x hx
     obtain ⟨b2, o2, d0, d1, d2, d3, d4, d5, d6, d7, d8, d9, rfl, hb2, q0, q1, q2, q3, q4, q5, q6, q7, q8, q9, q10, hy1⟩ := HR5q.out j y hy
     have HC := Lib.hid (fun u => ext_call u HSZ.out (sameX_any x.e y.e _ _ B u.w (hx1 u) (hy1 u) (HBB.out u) (HWI.out.1 x (List.mem_of_getElem? hx)) (HWI.out.2 y (List.mem_of_getElem? hy))))
     obtain ⟨r, hr⟩ := nam (eqB x.e y.e)
     rw [hr] at HC
     have HX := Lib.hid hx
     have HY := Lib.hid hy
     obtain ⟨ts, hts⟩ := nam ((x.nm.toList == y.nm.toList))
     cases ts with
     | false =>
      have z255665a := trivial
      exact Sg255665
     | true =>
      have z554685a := trivial
      exact Sg554685
    ·have hlt' : ¬ (j : Int) < n5p := by omega
     go_wp2_with fail
     have hp2 : p2 = true := by rw [← HP2.out, eqB_iff]; have h := HALL.out; rwa [List.take_of_length_le (by have := HN5.out.1; omega), List.take_of_length_le (by have := HN5.out.2; omega)] at h
     subst hp2
     clear HALL hj hlt hlt'
     have hjn : n7p = n7q := by have h := HI7.out; simp at h; omega
     subst hjn
     go_loopw [7] (fun iv wr => ∃ (j : Nat) (u : Ext (w.heap.size + 2) W0), iv = .int .i64 j ∧ j ≤ n7p ∧ Hid (l7p.take j = l7q.take j) ∧ wr = u.w) (fun iv _ => n7p - (intOf iv).toNat)
     case atStart => exact ⟨0, _, rfl, Nat.zero_le _, Lib.hid rfl, rfl⟩
     case round =>
      obtain ⟨j, u, rfl, hj, HALL, rfl⟩ := hrel
      by_cases hlt : j < n7p
      ·have hlt' : (j : Int) < n7p := by omega
       have hj0 : (0 : Int) ≤ (j : Int) := by omega
       have hwi : IntKind.i64.wrap ((j : Int) + 1) = (j : Int) + 1 := IntWalk.i64_in _ (by have := HN7.out.1; omega)
       obtain ⟨x, hx⟩ := get_some (l := l7p) (j := j) (by have := HN7.out.1; omega)
       obtain ⟨y, hy⟩ := get_some (l := l7q) (j := j) (by have := HN7.out.2; omega)
       obtain ⟨b1, o1, c0, c1, c2, c3, c4, c5, c6, c7, c8, c9, rfl, hb1, g0, g1, g2, g3, g4, g5, g6, g7, g8, g9, g10, hx1⟩ := HR7p.out j x hx
       obtain ⟨b2, o2, d0, d1, d2, d3, d4, d5, d6, d7, d8, d9, rfl, hb2, q0, q1, q2, q3, q4, q5, q6, q7, q8, q9, q10, hy1⟩ := HR7q.out j y hy
       have HC := Lib.hid (fun u => ext_call u HSZ.out (sameX_any x.e y.e _ _ B u.w (hx1 u) (hy1 u) (HBB.out u) (HWO.out.1 x (List.mem_of_getElem? hx)) (HWO.out.2 y (List.mem_of_getElem? hy))))
       obtain ⟨r, hr⟩ := nam (eqB x.e y.e)
       rw [hr] at HC
       have HX := Lib.hid hx
       have HY := Lib.hid hy
       obtain ⟨ts, hts⟩ := nam ((x.down == y.down))
       have mts : (x.down != y.down) = !ts := by rw [← hts]; rfl
       cases ts with
       | false =>
        exact Sg255665
       | true =>
        exact Sg554685
      ·have hlt' : ¬ (j : Int) < n7p := by omega
       go_wp2_with fail
       have hp3 : p3 = true := by rw [← HP3.out, eqB_iff]; have h := HALL.out; rwa [List.take_of_length_le (by have := HN7.out.1; omega), List.take_of_length_le (by have := HN7.out.2; omega)] at h
       subst hp3
       clear HALL hj hlt hlt'
       have hjn : n10p = n10q := by have h := HI10.out; simp at h; omega
       subst hjn
       go_loopw [8] (fun iv wr => ∃ (j : Nat) (u : Ext (w.heap.size + 2) W0), iv = .int .i64 j ∧ j ≤ n10p ∧ Hid (l10p.take j = l10q.take j) ∧ wr = u.w) (fun iv _ => n10p - (intOf iv).toNat)
       case atStart => exact ⟨0, _, rfl, Nat.zero_le _, Lib.hid rfl, rfl⟩
       case round =>
        obtain ⟨j, u, rfl, hj, HALL, rfl⟩ := hrel
        by_cases hlt : j < n10p
        ·have hlt' : (j : Int) < n10p := by omega
         have hj0 : (0 : Int) ≤ (j : Int) := by omega
         have hwi : IntKind.i64.wrap ((j : Int) + 1) = (j : Int) + 1 := IntWalk.i64_in _ (by have := HN10.out.1; omega)
         obtain ⟨x, hx⟩ := get_some (l := l10p) (j := j) (by have := HN10.out.1; omega)
         obtain ⟨y, hy⟩ := get_some (l := l10q) (j := j) (by have := HN10.out.2; omega)
         obtain ⟨b1, o1, c0, c1, c2, c3, c4, c5, c6, c7, c8, c9, rfl, hb1, rg1, hx1⟩ := HR10p.out j x hx
         obtain ⟨b2, o2, d0, d1, d2, d3, d4, d5, d6, d7, d8, d9, rfl, hb2, rg2, hy1⟩ := HR10q.out j y hy
         have HRG1 := Lib.hid rg1
         have HRG2 := Lib.hid rg2
         clear rg1 rg2
         have HI13 := Lib.hid (show (Tryz.prog.info? 70).map (·.size) = some 13 from by kernel_rfl)
         have HO1 : Hid _ := Lib.hid (si_one (p := x.var) (q := x.key) (r := x.label) (hx1 u))
         have HO2 : Hid _ := Lib.hid (si_one (p := y.var) (q := y.key) (r := y.label) (hy1 u))
         obtain ⟨s1, HX1, HB1, HK1, HS1, HT1⟩ := nw_box u HSZ.out [.string ⟨#[]⟩, .string ⟨#[]⟩, .string ⟨#[]⟩, .int .i64 0, .string ⟨#[]⟩, .int .i64 0, .bool false, .int .i64 0, .string ⟨#[]⟩, .slice none 0 0, .slice none 0 0, .slice none 0 0, .slice none 0 0] [.string x.var, .string x.key, .string x.label, c0, c1, c2, c3, c4, c5, c6, c7, c8, c9] 70
         obtain ⟨s2, HX2, HB2, HK2, HS2, HT2⟩ := nw_box s1 HSZ.out [.string ⟨#[]⟩, .string ⟨#[]⟩, .string ⟨#[]⟩, .int .i64 0, .string ⟨#[]⟩, .int .i64 0, .bool false, .int .i64 0, .string ⟨#[]⟩, .slice none 0 0, .slice none 0 0, .slice none 0 0, .slice none 0 0] [.string y.var, .string y.key, .string y.label, d0, d1, d2, d3, d4, d5, d6, d7, d8, d9] 70
         replace HK1 := Lib.hid (HK1.out.below HB2.out HK1.out.lt)
         obtain ⟨y0, y1, y2, y3, y4, y5, y6, y7, y8, y9, y10, y11, y12⟩ := bx13 HK1
         obtain ⟨z0, z1, z2, z3, z4, z5, z6, z7, z8, z9, z10, z11, z12⟩ := bx13 HK2
         have HC := Lib.hid (fun v : Ext s2.w.heap.size s2.w => ext_call v (Nat.le_refl _) (sameX_any x.e y.e _ _ B v.w (hx1 (famE s2 HSZ.out v)) (hy1 (famE s2 HSZ.out v)) (HBB.out (famE s2 HSZ.out v)) (HWZ.out.1 x (List.mem_of_getElem? hx)) (HWZ.out.2 y (List.mem_of_getElem? hy))))
         obtain ⟨ta, hta⟩ := nam ((x.var.toList == y.var.toList))
         obtain ⟨tb, htb⟩ := nam ((x.key.toList == y.key.toList))
         obtain ⟨tc, htc⟩ := nam ((x.label.toList == y.label.toList))
         obtain ⟨r, hr⟩ := nam (eqB x.e y.e)
         rw [hr] at HC
         have HX := Lib.hid hx
         have HY := Lib.hid hy
         have HTT := Lib.hid (And.intro hta (And.intro htb (And.intro htc hr)))
         obtain ⟨v0, hv0⟩ := Ext.start s2.w.heap.size s2.w
         go_wp2_with (refine wpList_load_mid rfl 70 _ rfl b1 (o1 + j * 13) rfl [.string x.var, .string x.key, .string x.label, c0, c1, c2, c3, c4, c5, c6, c7, c8, c9] _ (HRG1.out u) Tryz.underlying70 rfl HI13.out ?_; refine Stand.out ?_)
         refine Stand.mk ?_
         go_wp2_with (refine wpList_store_mid rfl 70 _ _ rfl u.w.heap.size 0 #[.string x.var, .string x.key, .string x.label, c0, c1, c2, c3, c4, c5, c6, c7, c8, c9] rfl rfl HT1.out HI13.out HO1.out ?_; rw [HX1.out]; refine Stand.out ?_)
         refine Stand.mk ?_
         go_wp2_with (refine wpList_load_mid rfl 70 _ rfl b2 (o2 + j * 13) rfl [.string y.var, .string y.key, .string y.label, d0, d1, d2, d3, d4, d5, d6, d7, d8, d9] _ (HRG2.out s1) Tryz.underlying70 rfl HI13.out ?_; refine Stand.out ?_)
         refine Stand.mk ?_
         go_wp2_with (refine wpList_store_mid rfl 70 _ _ rfl s1.w.heap.size 0 #[.string y.var, .string y.key, .string y.label, d0, d1, d2, d3, d4, d5, d6, d7, d8, d9] rfl rfl HT2.out HI13.out HO2.out ?_; rw [HX2.out, hv0]; refine Stand.out ?_)
         refine Stand.mk ?_
         clear hx hy hx1 hy1 hr HRG1 HRG2 HO1 HO2 HX1 HX2 HT1 HT2
         cases ta
         ·go_wp2_with fail
          go_ret
          have hne : x ≠ y := by intro h; subst h; have h := HTT.out; simp [eqB_refl] at h
          have hp4 : p4 = false := HP4.out.symm.trans (not_same HX.out HY.out hne)
          subst hp4
          exact ⟨by rfl, HBE.out (famE s2 HSZ.out _)⟩
         cases tb
         ·go_wp2_with fail
          go_ret
          have hne : x ≠ y := by intro h; subst h; have h := HTT.out; simp [eqB_refl] at h
          have hp4 : p4 = false := HP4.out.symm.trans (not_same HX.out HY.out hne)
          subst hp4
          exact ⟨by rfl, HBE.out (famE s2 HSZ.out _)⟩
         cases tc
         ·go_wp2_with fail
          go_ret
          have hne : x ≠ y := by intro h; subst h; have h := HTT.out; simp [eqB_refl] at h
          have hp4 : p4 = false := HP4.out.symm.trans (not_same HX.out HY.out hne)
          subst hp4
          exact ⟨by rfl, HBE.out (famE s2 HSZ.out _)⟩
         cases r
         ·go_wp2_with (go_at_call 108; refine (HC.out _).mono ?_; rintro e w2 ⟨rfl, v3, rfl⟩)
          go_ret
          have hne : x ≠ y := by intro h; subst h; have h := HTT.out; simp [eqB_refl] at h
          have hp4 : p4 = false := HP4.out.symm.trans (not_same HX.out HY.out hne)
          subst hp4
          exact ⟨by rfl, HBE.out (famE s2 HSZ.out _)⟩
         go_wp2_with (go_at_call 108; refine (HC.out _).mono ?_; rintro e w2 ⟨rfl, v3, rfl⟩)
         go_round
         case rel =>
          obtain ⟨h1, h2, h3, h4⟩ := HTT.out
          exact ⟨j + 1, famE s2 HSZ.out _, by go_num, by omega, Lib.hid (by rw [take_succ_get HX.out, take_succ_get HY.out, HALL.out, si_eq h1 h2 h3 (eqB_iff.1 h4)]), rfl⟩
         case measure => simp [intOf]; omega
        ·have hlt' : ¬ (j : Int) < n10p := by omega
         go_wp2_with fail
         have hp4 : p4 = true := by rw [← HP4.out, eqB_iff]; have h := HALL.out; rwa [List.take_of_length_le (by have := HN10.out.1; omega), List.take_of_length_le (by have := HN10.out.2; omega)] at h
         subst hp4
         clear HALL hj hlt hlt'
         go_ret
         exact ⟨by rfl, HBE.out _⟩
end Go.Proofs.YtndhpdclpgemfaaGreat

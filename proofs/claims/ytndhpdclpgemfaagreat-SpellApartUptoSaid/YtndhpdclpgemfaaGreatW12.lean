/- Parts X51, X52 of this seat (pruned, scripts that are alike kept once as default arguments: q1, q2, ..). Conditions: each says its own. -/
import Derived.Test.YtndhpdclpgemfaaGreatW11
namespace Go.Proofs.YtndhpdclpgemfaaGreat
open Go.RowKit Go.Shelf
set_option linter.unusedSimpArgs false
set_option linter.unusedVariables false
set_option maxRecDepth 100000
noncomputable def eqB {α : Type} (a b : α) : Bool := @decide (a = b) (Classical.propDecidable _)
theorem eqB_iff {α : Type} {a b : α} : eqB a b = true ↔ a = b := by unfold eqB; exact @decide_eq_true_iff _ (Classical.propDecidable _)
theorem eqB_refl {α : Type} (a : α) : eqB a a = true := eqB_iff.2 rfl
theorem eqB_of {α : Type} {a b : α} {q : Bool} (h : q = true ↔ a = b) : eqB a b = q := by
 cases q with
 | true => exact eqB_iff.2 (h.1 rfl)
 | false => cases he : eqB a b with
  | false => rfl
  | true => exact absurd (h.2 (eqB_iff.1 he)) (by decide)
theorem sameVs_iff2 : ∀ (l m : List Vt), (∀ (j : Nat) t, l[j]? = some t → ∀ u, sameV t u = true ↔ t = u) → (sameVs l m = true ↔ l = m) := by
 intro l
 induction l with
 | nil => intro m _; cases m <;> simp [sameVs]
 | cons t ts ih =>
  intro m h
  cases m with
  | nil => simp [sameVs]
  | cons u us =>
   have h0 := h 0 t rfl u
   have h1 := ih us (fun j t ht => h (j + 1) t (by simpa using ht))
   simp only [sameVs, Bool.and_eq_true, h0, h1, List.cons.injEq]
theorem sameV_iff2 (a : Vt) : ∀ b, sameV a b = true ↔ a = b := by
 refine a.down (p := fun a => ∀ b, sameV a b = true ↔ a = b) fun k b i s l ks ih c => ?_
 obtain ⟨k', b', i', s', l', ks'⟩ := c
 simp only [sameV, Bool.and_eq_true, decide_eq_true_eq, sameVs_iff2 l l' ih]
 constructor
 ·rintro ⟨⟨⟨⟨⟨rfl, rfl⟩, rfl⟩, rfl⟩, rfl⟩, rfl⟩; rfl
 ·intro h
  injection h with h1 h2 h3 h4 h5 h6
  exact ⟨⟨⟨⟨⟨h1, h2⟩, h3⟩, h4⟩, h6⟩, h5⟩
theorem bytes_iff {a b : ByteArray} : (a.toList == b.toList) = true ↔ a = b := by rw [ba_beq, decide_eq_true_iff]
theorem not_same {α : Type} {l m : List α} {j : Nat} {x y : α} (hx : l[j]? = some x) (hy : m[j]? = some y) (h : x ≠ y) : eqB l m = false := by
 refine eqB_of ⟨fun h => (by cases h), fun e => ?_⟩
 subst e; rw [hx] at hy; cases hy; exact absurd rfl h
theorem ex_at {C B : Nat} {w W0 : World} {xa : Option Addr} {az : List Ex} (h : RowR (IsX B w) 10 B w xa az) (hB : B ≤ w.heap.size) (hbe : ∀ u : Ext C W0, Below w.heap.size w u.w) {j : Nat} {t : Ex} (ht : az[j]? = some t) :
    ∃ b off, ∃ c0 c1 c2 c3 c4 c5 c6 c7 c8 c9 : Value, xa = some ⟨b, off, none⟩ ∧ b < B ∧ (∀ u : Ext C W0, u.w.cell? ⟨b, off + j * 10, none⟩ = some c0) ∧ (∀ u : Ext C W0, u.w.cell? ⟨b, off + j * 10 + 1, none⟩ = some c1) ∧ (∀ u : Ext C W0, u.w.cell? ⟨b, off + j * 10 + 2, none⟩ = some c2) ∧ (∀ u : Ext C W0, u.w.cell? ⟨b, off + j * 10 + 3, none⟩ = some c3) ∧ (∀ u : Ext C W0, u.w.cell? ⟨b, off + j * 10 + 4, none⟩ = some c4) ∧ (∀ u : Ext C W0, u.w.cell? ⟨b, off + j * 10 + 5, none⟩ = some c5) ∧ (∀ u : Ext C W0, u.w.cell? ⟨b, off + j * 10 + 6, none⟩ = some c6) ∧ (∀ u : Ext C W0, u.w.cell? ⟨b, off + j * 10 + 7, none⟩ = some c7) ∧ (∀ u : Ext C W0, u.w.cell? ⟨b, off + j * 10 + 8, none⟩ = some c8) ∧ (∀ u : Ext C W0, u.w.cell? ⟨b, off + j * 10 + 9, none⟩ = some c9) ∧ ∀ u : Ext C W0, IsX B u.w [c0, c1, c2, c3, c4, c5, c6, c7, c8, c9] t := by
 obtain ⟨b, off, cs, h1, h2, h3, h4⟩ := h.at_ext hB hbe ht
 obtain ⟨op, nm, v, ns, az2⟩ := t
 obtain ⟨k, bo, i, s, l, ks, la, lc, ka, kc, na, nc, xa2, xc, -, rfl, -⟩ := (h4 (Classical.choice inferInstance)).cells
 exact ⟨b, off, _, _, _, _, _, _, _, _, _, _, h1, h2, fun u => h3 u 0 _ rfl, fun u => h3 u 1 _ rfl, fun u => h3 u 2 _ rfl, fun u => h3 u 3 _ rfl, fun u => h3 u 4 _ rfl, fun u => h3 u 5 _ rfl, fun u => h3 u 6 _ rfl, fun u => h3 u 7 _ rfl, fun u => h3 u 8 _ rfl, fun u => h3 u 9 _ rfl, h4⟩
theorem box2 (w : World) (c1 c2 : List Value) (t1 t2 : TypeId) : ∃ (W0 : World) (u0 : Ext (w.heap.size + 2) W0), Hid ((w.alloc (.cells c1.toArray t1)).alloc (.cells c2.toArray t2) = W0) ∧ Hid (W0 = u0.w) ∧ Hid (w.heap.size + 2 ≤ W0.heap.size) ∧
    Hid (∀ u : Ext (w.heap.size + 2) W0, Below w.heap.size w u.w) ∧ (∀ (u : Ext (w.heap.size + 2) W0) (i : Nat) v, c1[i]? = some v → u.w.cell? ⟨w.heap.size, i, none⟩ = some v) ∧ (∀ (u : Ext (w.heap.size + 2) W0) (i : Nat) v, c2[i]? = some v → u.w.cell? ⟨w.heap.size + 1, i, none⟩ = some v) := by
 obtain ⟨W0, u0, h1, h2, h3, h4, h5, h6⟩ := box_ext2 w c1 c2 t1 t2
 exact ⟨W0, u0, Lib.hid h1, Lib.hid h2, Lib.hid h3, Lib.hid h4, h5, h6⟩
def SameXSaid (t : Ex) : Prop := ∀ (u : Ex) (cs ds : List Value) (B : Nat) (w : World), IsX B w cs t → IsX B w ds u → B ≤ w.heap.size → wtX t ≤ 1099511627776 → wtX u ≤ 1099511627776 →
  Calls Tryz.prog 108 #[.agg cs.toArray, .agg ds.toArray] w fun e w' => e = .returned (.bool (eqB t u)) ∧ Below w.heap.size w w'
theorem wtXs_in {t : Ex} {l : List Ex} (h : t ∈ l) : wtX t ≤ wtXs l := by rw [wtXs_sum]; exact sum_mem h
def SameXsSaid (az : List Ex) : Prop := ∀ (bz : List Ex) (xa xa2 : Option Addr) (xc xc2 B : Nat) (w : World), RowR (IsX B w) 10 B w xa az → RowR (IsX B w) 10 B w xa2 bz → B ≤ w.heap.size → wtXs az ≤ 1099511627776 → wtXs bz ≤ 1099511627776 →
  Calls Tryz.prog 107 #[.slice xa az.length xc, .slice xa2 bz.length xc2] w fun e w' => e = .returned (.bool (eqB az bz)) ∧ Below w.heap.size w w'
set_option maxHeartbeats 16000000 in
theorem sameXs_of (az : List Ex) (hA : ∀ t ∈ az, SameXSaid t) : SameXsSaid az := by
 revert hA
 intro hA
 intro bz xa xa2 xc xc2 B w hR hS hB hw1 hw2
 have hm0 : az.length ≤ 1099511627776 := by have := wtXs_len az; omega
 have hk0 : bz.length ≤ 1099511627776 := by have := wtXs_len bz; omega
 obtain ⟨u0, hu0⟩ := Ext.start w.heap.size w
 have HAT := Lib.hid (fun (j : Nat) (t : Ex) (ht : az[j]? = some t) => ex_at hR hB (fun u : Ext w.heap.size w => u.below) ht)
 have HBT := Lib.hid (fun (j : Nat) (t : Ex) (ht : bz[j]? = some t) => ex_at hS hB (fun u : Ext w.heap.size w => u.below) ht)
 have HCL := Lib.hid (fun (t v : Ex) (ht : t ∈ az) (hv : v ∈ bz) (cs ds : List Value) (u : Ext w.heap.size w) (h1 : IsX B u.w cs t) (h2 : IsX B u.w ds v) => ext_call u (Nat.le_refl _) (hA t ht v cs ds B u.w h1 h2 (Nat.le_trans hB u.below.size) (Nat.le_trans (wtXs_in ht) hw1) (Nat.le_trans (wtXs_in hv) hw2)))
 obtain ⟨m, hm⟩ := nam az.length
 obtain ⟨k, hk⟩ := nam bz.length
 rw [hm] at hm0 ⊢
 rw [hk] at hk0 ⊢
 obtain ⟨HM, HK, HU0⟩ := hd3 hm hk hu0
 clear hA hR hS hw1 hw2 hu0
 by_cases hmk : m = k
 ·subst hmk
  clear hm hk
  go_enter Tryz.func107, Tryz.ntmps107
  go_wp2_with fail
  go_loopw [5] (fun iv wr => ∃ (j : Nat) (u : Ext w.heap.size w), iv = .int .i64 j ∧ j ≤ m ∧ Hid (az.take j = bz.take j) ∧ wr = u.w) (fun iv _ => m - (intOf iv).toNat)
  case atStart => exact ⟨0, u0, rfl, Nat.zero_le _, Lib.hid rfl, HU0.out⟩
  case round =>
   obtain ⟨j, u, rfl, hj, HALL, rfl⟩ := hrel
   by_cases hlt : j < m
   ·have hlt' : (j : Int) < m := by omega
    have hj0 : (0 : Int) ≤ (j : Int) := by omega
    have hwi : IntKind.i64.wrap ((j : Int) + 1) = (j : Int) + 1 := IntWalk.i64_in _ (by omega)
    obtain ⟨t, ht⟩ := get_some (l := az) (j := j) (by have := HM.out; omega)
    obtain ⟨v, hv⟩ := get_some (l := bz) (j := j) (by have := HK.out; omega)
    obtain ⟨b, o, c0, c1, c2, c3, c4, c5, c6, c7, c8, c9, rfl, hb, g0, g1, g2, g3, g4, g5, g6, g7, g8, g9, hx⟩ := HAT.out j t ht
    obtain ⟨b2, o2, d0, d1, d2, d3, d4, d5, d6, d7, d8, d9, rfl, hb2, f0, f1, f2, f3, f4, f5, f6, f7, f8, f9, hy⟩ := HBT.out j v hv
    have HC := Lib.hid (fun u => HCL.out t v (List.mem_of_getElem? ht) (List.mem_of_getElem? hv) _ _ u (hx u) (hy u))
    obtain ⟨r, hr⟩ := nam (eqB t v)
    rw [hr] at HC
    obtain ⟨HR, HT, HV⟩ := hd3 hr ht hv
    clear hx hy hr ht hv
    cases r with
    | true =>
     go_wp2_with (refine wp_region_at _ (by kernel_rfl) (by kernel_rfl) ?_; (repeat (go_big_quiet_step (with_reducible exact HC.out _))); refine wpQuiet_nil ?_; rintro w9 ⟨u9, rfl⟩)
     go_round
     case rel => exact ⟨j + 1, _, by go_num, by omega, Lib.hid (by rw [take_succ_get HT.out, take_succ_get HV.out, HALL.out, eqB_iff.1 HR.out]), rfl⟩
     case measure => simp [intOf]; omega
    | false =>
     go_wp2_with (refine wp_region_at _ (by kernel_rfl) (by kernel_rfl) ?_; (repeat (go_big_quiet_step (with_reducible exact HC.out _))); refine wpQuiet_nil ?_; rintro w9 ⟨u9, rfl⟩)
     go_ret
     have hne : eqB az bz = false := not_same HT.out HV.out (fun h => by have h2 := HR.out; rw [h, eqB_refl] at h2; cases h2)
     rw [hne]
     exact ⟨rfl, Ext.below _⟩
   ·have hlt' : ¬ (j : Int) < m := by omega
    go_wp2_with fail
    go_ret
    have hjm : j = m := by omega
    subst hjm
    have heq : eqB az bz = true := by rw [eqB_iff]; have h := HALL.out; rwa [List.take_of_length_le (by have := HM.out; omega), List.take_of_length_le (by have := HK.out; omega)] at h
    rw [heq]
    exact ⟨rfl, Ext.below _⟩
 ·have hmi : ((m : Int) != (k : Int)) = true := by simp; omega
  go_enter Tryz.func107, Tryz.ntmps107
  go_wp2_with fail
  go_ret
  have hne : eqB az bz = false := eqB_of (q := false) ⟨fun h => (by cases h), fun h => absurd (by rw [← HM.out, ← HK.out, h]) hmk⟩
  rw [hne]
  exact ⟨rfl, Below.refl _ _⟩
theorem Sg286167 {P : Prop} (h : P := by
 go_enter Tryz.func108, Tryz.ntmps108
 go_upto_region 1 with fail
 rw [HW0.out, HU0.out]
 go_wp2_with (first | (go_at_call 54; refine (HSV.out _).mono ?_; rintro e w2 ⟨rfl, u2, rfl⟩) | (go_at_call 105; refine (HSN.out _).mono ?_; rintro e w2 ⟨rfl, u3, rfl⟩) | (go_at_call 107; refine (HSX.out _).mono ?_; rintro e w2 ⟨rfl, u4, rfl⟩))
 go_ret
 exact ⟨by rfl, HBE.out _⟩) : P := h
set_option maxHeartbeats 16000000 in
theorem sameX_any (t : Ex) : SameXSaid t := by
 refine t.down (p := SameXSaid) fun op nm v ns az ih u cs ds B w hX hY hB hw1 hw2 => ?_
 have HX := Lib.hid hX
 have HY := Lib.hid hY
 obtain ⟨op2, nm2, v2, ns2, az2⟩ := u
 obtain ⟨k, b, i, s, l, ks, la, lc, ka, kc, na, nc, xa, xc, hv, rfl, hop, hV, hNA, hXA, hNS, hAZ⟩ := hX.cells
 obtain ⟨k2, b2, i2, s2, l2, ks2, la2, lc2, ka2, kc2, na2, nc2, xa2, xc2, hv2, rfl, hop2, hV2, hNA2, hXA2, hNS2, hAZ2⟩ := hY.cells
 clear hX hY
 have hn0 : ns.length ≤ 1099511627776 := by have := wtS_len ns; simp only [wtX] at hw1; omega
 have hn2 : ns2.length ≤ 1099511627776 := by have := wtS_len ns2; simp only [wtX] at hw2; omega
 have hm1 : wtXs az ≤ 1099511627776 := by simp only [wtX] at hw1; omega
 have hm2 : wtXs az2 ≤ 1099511627776 := by simp only [wtX] at hw2; omega
 obtain ⟨W0, u0, HW0, HU0, HSZ, HBE, hc1, hc2⟩ := box2 w [.int .i64 op, .string nm, .int .i64 k, .bool b, .int .i64 i, .string s, .slice la l.length lc, .slice ka ks.length kc, .slice na ns.length nc, .slice xa az.length xc] [.int .i64 op2, .string nm2, .int .i64 k2, .bool b2, .int .i64 i2, .string s2, .slice la2 l2.length lc2, .slice ka2 ks2.length kc2, .slice na2 ns2.length nc2, .slice xa2 az2.length xc2] 36 36
 obtain ⟨e0, e1, e2, e3, e4, e5, e6, e7, e8, e9⟩ := ge10 hc1
 obtain ⟨f0, f1, f2, f3, f4, f5, f6, f7, f8, f9⟩ := ge10 hc2
 have HSV := Lib.hid (fun u : Ext (w.heap.size + 2) W0 => ext_call u HSZ.out (same_any v v2 _ _ B u.w (IsV.below (HBE.out u) hB _ _ hV) (IsV.below (HBE.out u) hB _ _ hV2) (Nat.le_trans hB (HBE.out u).size)))
 have HSN := Lib.hid (fun u : Ext (w.heap.size + 2) W0 => ext_call u HSZ.out (sameNames_any ns ns2 na na2 nc nc2 B u.w (hNS.below (HBE.out u) hB) (hNS2.below (HBE.out u) hB) (Nat.le_trans hB (HBE.out u).size) (by omega) (by omega)))
 have HSX := Lib.hid (fun u : Ext (w.heap.size + 2) W0 => ext_call u HSZ.out (sameXs_of az (fun t ht => by obtain ⟨j, hj⟩ := List.getElem?_of_mem ht; exact ih j t hj) az2 xa xa2 xc xc2 B u.w (hAZ.below (HBE.out u) hB (fun _ _ h => IsX.below (HBE.out u) hB _ _ h)) (hAZ2.below (HBE.out u) hB (fun _ _ h => IsX.below (HBE.out u) hB _ _ h)) (Nat.le_trans hB (HBE.out u).size) hm1 hm2))
 obtain ⟨q0, h0⟩ := nam ((op == op2))
 obtain ⟨q1, h1⟩ := nam ((nm.toList == nm2.toList))
 obtain ⟨q2, h2⟩ := nam (sameV v v2)
 obtain ⟨q3, h3⟩ := nam (decide (ns = ns2))
 obtain ⟨q4, h4⟩ := nam (eqB az az2)
 have hq : eqB (Ex.mk op nm v ns az) (Ex.mk op2 nm2 v2 ns2 az2) = (q0 && (q1 && (q2 && (q3 && q4)))) := eqB_of (by simp only [← h0, ← h1, ← h2, ← h3, ← h4, Bool.and_eq_true, beq_iff_eq, sameV_iff2, decide_eq_true_iff, eqB_iff, Ex.mk.injEq]; rw [← bytes_iff, beq_iff_eq])
 rw [hq]
 rw [h2] at HSV
 rw [h3] at HSN
 rw [h4] at HSX
 clear hq h2 h3 h4 hc1 hc2 hm1 hm2 hn0 hn2 hAZ hAZ2 hNS hNS2 hNA hNA2 hXA hXA2 hV hV2 hop hop2 hv hv2 ih hw1 hw2 HX HY
 generalize l.length = ll at *
 generalize ks.length = kl at *
 generalize ns.length = n at *
 generalize az.length = m at *
 generalize l2.length = ll2 at *
 generalize ks2.length = kl2 at *
 generalize ns2.length = n2 at *
 generalize az2.length = m2 at *
 cases q0
 ·exact Sg286167
 cases q1
 ·exact Sg286167
 cases q2
 ·exact Sg286167
 cases q3
 ·exact Sg286167
 cases q4
 ·exact Sg286167
 go_enter Tryz.func108, Tryz.ntmps108
 go_upto_region 1 with fail
 rw [HW0.out, HU0.out]
 go_wp2_with (first | (go_at_call 54; refine (HSV.out _).mono ?_; rintro e w2 ⟨rfl, u2, rfl⟩) | (go_at_call 105; refine (HSN.out _).mono ?_; rintro e w2 ⟨rfl, u3, rfl⟩) | (go_at_call 107; refine (HSX.out _).mono ?_; rintro e w2 ⟨rfl, u4, rfl⟩))
 go_ret
 exact ⟨by rfl, HBE.out _⟩
theorem row_at {α : Type} {R : World → List Value → α → Prop} {C B s : Nat} {w W0 : World} {xa : Option Addr} {l : List α} (h : RowR (R w) s B w xa l) (hm : ∀ (u : Ext C W0) cs x, R w cs x → R u.w cs x) (hB : B ≤ w.heap.size) (hbe : ∀ u : Ext C W0, Below w.heap.size w u.w) {j : Nat} {x : α} (hx : l[j]? = some x) :
    ∃ b off cs, xa = some ⟨b, off, none⟩ ∧ b < B ∧ (∀ (u : Ext C W0) (q : Nat) v, cs[q]? = some v → u.w.cell? ⟨b, off + j * s + q, none⟩ = some v) ∧ ∀ u : Ext C W0, R u.w cs x := by
 obtain ⟨b, off, cs, h1, h2, h3, h4, h5⟩ := h j x hx
 exact ⟨b, off, cs, h1, h2, fun u q v hv => ((hbe u).cell (p := ⟨b, off + j * s + q, none⟩) (by show b < _; omega)).trans (by rw [Nat.add_assoc]; exact h4 q v hv), fun u => hm u _ _ h5⟩
def famE {C : Nat} {W0 : World} (p : Ext C W0) (hC : C ≤ W0.heap.size) (v : Ext p.w.heap.size p.w) : Ext C W0 := ⟨v.w, p.below.trans (v.below.mono (Nat.le_trans hC p.below.size))⟩
theorem bx4 {w : World} {b : Nat} {x0 x1 x2 x3 : Value} {t : TypeId} (h : Hid (Block w b [x0, x1, x2, x3] t)) : (∀ v : Ext w.heap.size w, v.w.cell? ⟨b, 0, none⟩ = some x0) ∧ (∀ v : Ext w.heap.size w, v.w.cell? ⟨b, 1, none⟩ = some x1) ∧ (∀ v : Ext w.heap.size w, v.w.cell? ⟨b, 2, none⟩ = some x2) ∧ (∀ v : Ext w.heap.size w, v.w.cell? ⟨b, 3, none⟩ = some x3) :=
  ⟨cy_one _ (h.out.cell (i := 0) rfl) h.out.lt, cy_one _ (h.out.cell (i := 1) rfl) h.out.lt, cy_one _ (h.out.cell (i := 2) rfl) h.out.lt, cy_one _ (h.out.cell (i := 3) rfl) h.out.lt⟩
theorem bx5 {w : World} {b : Nat} {x0 x1 x2 x3 x4 : Value} {t : TypeId} (h : Hid (Block w b [x0, x1, x2, x3, x4] t)) : (∀ v : Ext w.heap.size w, v.w.cell? ⟨b, 0, none⟩ = some x0) ∧ (∀ v : Ext w.heap.size w, v.w.cell? ⟨b, 1, none⟩ = some x1) ∧ (∀ v : Ext w.heap.size w, v.w.cell? ⟨b, 2, none⟩ = some x2) ∧ (∀ v : Ext w.heap.size w, v.w.cell? ⟨b, 3, none⟩ = some x3) ∧ (∀ v : Ext w.heap.size w, v.w.cell? ⟨b, 4, none⟩ = some x4) :=
  ⟨cy_one _ (h.out.cell (i := 0) rfl) h.out.lt, cy_one _ (h.out.cell (i := 1) rfl) h.out.lt, cy_one _ (h.out.cell (i := 2) rfl) h.out.lt, cy_one _ (h.out.cell (i := 3) rfl) h.out.lt, cy_one _ (h.out.cell (i := 4) rfl) h.out.lt⟩
theorem np_eq {x y : Npt} (h0 : (x.var.toList == y.var.toList) = true) (h1 : decide (x.labels = y.labels) = true) (h2 : decide (x.keys = y.keys) = true) (h3 : eqB x.vals y.vals = true) : x = y := by
 cases x; cases y; simp only [Npt.mk.injEq]; exact ⟨bytes_iff.1 h0, of_decide_eq_true h1, of_decide_eq_true h2, eqB_iff.1 h3⟩
theorem ep_eq {x y : Ept} (h0 : (x.var.toList == y.var.toList) = true) (h1 : (x.ty.toList == y.ty.toList) = true) (h2 : (x.dir == y.dir) = true) (h3 : decide (x.keys = y.keys) = true) (h4 : eqB x.vals y.vals = true) : x = y := by
 cases x; cases y; simp only [Ept.mk.injEq]; exact ⟨bytes_iff.1 h0, bytes_iff.1 h1, eq_of_beq h2, of_decide_eq_true h3, eqB_iff.1 h4⟩
theorem np_le {x : Npt} {K : Nat} (h : wtNp x ≤ K) : x.labels.length ≤ K ∧ x.keys.length ≤ K ∧ wtXs x.vals ≤ K := by
 have h1 := wtS_len x.labels; have h2 := wtS_len x.keys; unfold wtNp at h; omega
theorem ep_le {x : Ept} {K : Nat} (h : wtEp x ≤ K) : x.keys.length ≤ K ∧ wtXs x.vals ≤ K := by
 have h2 := wtS_len x.keys; unfold wtEp at h; omega
theorem pt_le {p : Ptt} {K : Nat} (h : wtPt p ≤ K) : (∀ x ∈ p.nodes, wtNp x ≤ K) ∧ (∀ x ∈ p.edges, wtEp x ≤ K) ∧ p.nodes.length ≤ K ∧ p.edges.length ≤ K := by
 have h1 := len_sum (f := wtNp) (fun x => by unfold wtNp; omega) p.nodes
 have h2 := len_sum (f := wtEp) (fun x => by unfold wtEp; omega) p.edges
 unfold wtPt at h
 exact ⟨fun x hx => by have := sum_mem (f := wtNp) hx; omega, fun x hx => by have := sum_mem (f := wtEp) hx; omega, by omega, by omega⟩
theorem Sg321213 {P : Prop} (h : P := by
 go_wp2_with (first | (go_at_call 105; (with_reducible refine (HC1.out _).mono ?_); rintro e w2 ⟨rfl, v1, rfl⟩) | (go_at_call 105; (with_reducible refine (HC2.out _).mono ?_); rintro e w2 ⟨rfl, v2, rfl⟩) | (go_at_call 107; (with_reducible refine (HC3.out _).mono ?_); rintro e w2 ⟨rfl, v3, rfl⟩))
 go_ret
 obtain ⟨hx, hy, ht0, ht1, ht2, ht3⟩ := HTS.out
 have hne : x ≠ y := by rintro rfl; simp [eqB_refl] at ht0 ht1 ht2 ht3
 have hnf : eqB (⟨nl1, el1⟩ : Ptt) ⟨nl2, el2⟩ = false := eqB_of (q := false) ⟨fun h => (by cases h), fun h => (by injection h with h1 h2; rw [h1] at hx; rw [hx] at hy; cases hy; exact absurd rfl hne)⟩
 rw [hnf]
 refine ⟨rfl, ?_⟩
 exact HLF.out _) : P := h
theorem Sg608242 {P : Prop} (h : P := by
 go_wp2_with (first | (go_at_call 105; (with_reducible refine (HC3.out _).mono ?_); rintro e w2 ⟨rfl, v3, rfl⟩) | (go_at_call 107; (with_reducible refine (HC4.out _).mono ?_); rintro e w2 ⟨rfl, v4, rfl⟩))
 go_ret
 obtain ⟨hx, hy, ht0, ht1, ht2, ht3, ht4⟩ := HTS.out
 have hne : x ≠ y := by rintro rfl; simp [eqB_refl] at ht0 ht1 ht2 ht3 ht4
 have hnf : eqB (⟨nl1, el1⟩ : Ptt) ⟨nl2, el2⟩ = false := eqB_of (q := false) ⟨fun h => (by cases h), fun h => (by injection h with h1 h2; rw [h2] at hx; rw [hx] at hy; cases hy; exact absurd rfl hne)⟩
 rw [hnf]
 refine ⟨rfl, ?_⟩
 exact HLF.out _) : P := h
set_option maxHeartbeats 32000000 in
theorem samePath_any (p q : Ptt) (cs ds : List Value) (B : Nat) (w : World) (hX : IsPt B w cs p) (hY : IsPt B w ds q) (hB : B ≤ w.heap.size) (hw1 : wtPt p ≤ 1099511627776) (hw2 : wtPt q ≤ 1099511627776) :
    Calls Tryz.prog 109 #[.agg cs.toArray, .agg ds.toArray] w fun e w' => e = .returned (.bool (eqB p q)) ∧ Below w.heap.size w w' := by
 obtain ⟨nl1, el1⟩ := p
 obtain ⟨nl2, el2⟩ := q
 obtain ⟨na1, nc1, ea1, ec1, rfl, hns1, hn1, hes1, he1⟩ := hX
 obtain ⟨na2, nc2, ea2, ec2, rfl, hns2, hn2, hes2, he2⟩ := hY
 simp only at hns1 hn1 hes1 he1 hns2 hn2 hes2 he2
 obtain ⟨wn1, we1, ln1, le1⟩ := pt_le hw1
 obtain ⟨wn2, we2, ln2, le2⟩ := pt_le hw2
 simp only at wn1 we1 wn2 we2 ln1 le1 ln2 le2
 obtain ⟨kn1, hkn1⟩ := nam nl1.length
 obtain ⟨kn2, hkn2⟩ := nam nl2.length
 obtain ⟨ke1, hke1⟩ := nam el1.length
 obtain ⟨ke2, hke2⟩ := nam el2.length
 rw [hkn1, hkn2, hke1, hke2]
 rw [hkn1] at ln1
 rw [hkn2] at ln2
 rw [hke1] at le1
 rw [hke2] at le2
 obtain ⟨W0, u0, HW0, HU0, HSZ, HBE, hc1, hc2⟩ := box2 w [.slice na1 kn1 nc1, .slice ea1 ke1 ec1] [.slice na2 kn2 nc2, .slice ea2 ke2 ec2] 60 60
 have e0 := fun u => hc1 u 0 _ rfl
 have e1 := fun u => hc1 u 1 _ rfl
 have f0 := fun u => hc2 u 0 _ rfl
 have f1 := fun u => hc2 u 1 _ rfl
 clear hc1 hc2
 have HRn1 := Lib.hid (fun (j : Nat) x (hx : nl1[j]? = some x) => row_at (C := w.heap.size + 2) (W0 := W0) hn1 (fun u cs x h => h.below (HBE.out u) hB) hB HBE.out hx)
 have HRn2 := Lib.hid (fun (j : Nat) x (hx : nl2[j]? = some x) => row_at (C := w.heap.size + 2) (W0 := W0) hn2 (fun u cs x h => h.below (HBE.out u) hB) hB HBE.out hx)
 have HRe1 := Lib.hid (fun (j : Nat) x (hx : el1[j]? = some x) => row_at (C := w.heap.size + 2) (W0 := W0) he1 (fun u cs x h => h.below (HBE.out u) hB) hB HBE.out hx)
 have HRe2 := Lib.hid (fun (j : Nat) x (hx : el2[j]? = some x) => row_at (C := w.heap.size + 2) (W0 := W0) he2 (fun u cs x h => h.below (HBE.out u) hB) hB HBE.out hx)
 obtain ⟨HM1, HM2, HM3, HM4⟩ := hd4 hkn1 hkn2 hke1 hke2
 have HWN1 := Lib.hid wn1
 have HWN2 := Lib.hid wn2
 have HWE1 := Lib.hid we1
 have HWE2 := Lib.hid we2
 clear hkn1 hkn2 hke1 hke2 wn1 wn2 we1 we2 hns1 hns2 hes1 hes2 hn1 hn2 he1 he2 hw1 hw2
 by_cases hn : kn1 = kn2
 ·subst hn
  by_cases he : ke1 = ke2
  ·subst he
   have hi1 : ((kn1 : Int) != (kn1 : Int)) = false := by simp
   have hi2 : ((ke1 : Int) != (ke1 : Int)) = false := by simp
   go_enter Tryz.func109, Tryz.ntmps109
   go_upto_region 1 with fail
   rw [HW0.out, HU0.out]
   go_wp2_with fail
   go_loopw [5] (fun iv wr => ∃ (j : Nat) (u : Ext (w.heap.size + 2) W0), iv = .int .i64 j ∧ j ≤ kn1 ∧ Hid (nl1.take j = nl2.take j) ∧ wr = u.w) (fun iv _ => kn1 - (intOf iv).toNat)
   case atStart => exact ⟨0, u0, rfl, Nat.zero_le _, Lib.hid rfl, rfl⟩
   case round =>
    obtain ⟨j, u, rfl, hj, HALL, rfl⟩ := hrel
    by_cases hlt : j < kn1
    ·have hlt' : (j : Int) < kn1 := by omega
     have hj0 : (0 : Int) ≤ (j : Int) := by omega
     have hwi : IntKind.i64.wrap ((j : Int) + 1) = (j : Int) + 1 := IntWalk.i64_in _ (by omega)
     obtain ⟨x, hx⟩ := get_some (l := nl1) (j := j) (by have := HM1.out; omega)
     obtain ⟨y, hy⟩ := get_some (l := nl2) (j := j) (by have := HM2.out; omega)
     obtain ⟨b1, o1, cs1, rfl, hb1, g, hx1⟩ := HRn1.out j x hx
     obtain ⟨b2, o2, cs2, rfl, hb2, f, hy1⟩ := HRn2.out j y hy
     obtain ⟨a_labels1, c_labels1, a_keys1, c_keys1, a_vals1, c_vals1, rfl, s_labels1, r_labels1, s_keys1, r_keys1, s_vals1, r_vals1⟩ := hx1 u
     obtain ⟨a_labels2, c_labels2, a_keys2, c_keys2, a_vals2, c_vals2, rfl, s_labels2, r_labels2, s_keys2, r_keys2, s_vals2, r_vals2⟩ := hy1 u
     obtain ⟨x_labels, x_keys, x_vals⟩ := np_le (HWN1.out x (List.mem_of_getElem? hx))
     obtain ⟨y_labels, y_keys, y_vals⟩ := np_le (HWN2.out y (List.mem_of_getElem? hy))
     have g0 : ∀ u : Ext (w.heap.size + 2) W0, u.w.cell? ⟨b1, o1 + j * 4, none⟩ = some _ := fun u => g u 0 _ rfl
     obtain ⟨g1, g2, g3⟩ := gf3 g
     have f0 : ∀ u : Ext (w.heap.size + 2) W0, u.w.cell? ⟨b2, o2 + j * 4, none⟩ = some _ := fun u => f u 0 _ rfl
     obtain ⟨f1, f2, f3⟩ := gf3 f
     obtain ⟨p1, HX1, HB1, HK1, HS1, HT1⟩ := nw_box u HSZ.out [.string ⟨#[]⟩, .slice none 0 0, .slice none 0 0, .slice none 0 0] [.string x.var, .slice a_labels1 x.labels.length c_labels1, .slice a_keys1 x.keys.length c_keys1, .slice a_vals1 x.vals.length c_vals1] 62
     obtain ⟨p2, HX2, HB2, HK2, HS2, HT2⟩ := nw_box p1 HSZ.out [.string ⟨#[]⟩, .slice none 0 0, .slice none 0 0, .slice none 0 0] [.string y.var, .slice a_labels2 y.labels.length c_labels2, .slice a_keys2 y.keys.length c_keys2, .slice a_vals2 y.vals.length c_vals2] 62
     replace HK1 := Lib.hid (HK1.out.below HB2.out HK1.out.lt)
     obtain ⟨k0, k1, k2, k3⟩ := bx4 HK1
     obtain ⟨m0, m1, m2, m3⟩ := bx4 HK2
     have HBU : Hid (Below u.w.heap.size u.w p2.w) := Lib.hid (below_tr HB1.out HB2.out)
     have HBB : Hid (B ≤ u.w.heap.size) := Lib.hid (Nat.le_trans hB (HBE.out u).size)
     have HBC : Hid (B ≤ p2.w.heap.size) := Lib.hid (Nat.le_trans HBB.out HBU.out.size)
     have HLF := Lib.hid (fun v : Ext p2.w.heap.size p2.w => Below.trans (HBE.out u) ((HBU.out.trans (v.below.mono HBU.out.size)).mono (HBE.out u).size))
     obtain ⟨t0, ht0⟩ := nam ((x.var.toList == y.var.toList))
     have HC1 := Lib.hid (fun v : Ext p2.w.heap.size p2.w => ext_call v (Nat.le_refl _) (sameNames_any x.labels y.labels a_labels1 a_labels2 c_labels1 c_labels2 B v.w ((r_labels1.below HBU.out HBB.out).below v.below HBC.out) ((r_labels2.below HBU.out HBB.out).below v.below HBC.out) (Nat.le_trans HBC.out v.below.size) (by omega) (by omega)))
     obtain ⟨t1, ht1⟩ := nam (decide (x.labels = y.labels))
     rw [ht1] at HC1
     have HC2 := Lib.hid (fun v : Ext p2.w.heap.size p2.w => ext_call v (Nat.le_refl _) (sameNames_any x.keys y.keys a_keys1 a_keys2 c_keys1 c_keys2 B v.w ((r_keys1.below HBU.out HBB.out).below v.below HBC.out) ((r_keys2.below HBU.out HBB.out).below v.below HBC.out) (Nat.le_trans HBC.out v.below.size) (by omega) (by omega)))
     obtain ⟨t2, ht2⟩ := nam (decide (x.keys = y.keys))
     rw [ht2] at HC2
     have HC3 := Lib.hid (fun v : Ext p2.w.heap.size p2.w => ext_call v (Nat.le_refl _) (sameXs_of x.vals (fun t _ => sameX_any t) y.vals a_vals1 a_vals2 c_vals1 c_vals2 B v.w ((r_vals1.below HBU.out HBB.out (fun _ _ h => IsX.below HBU.out HBB.out _ _ h)).below v.below HBC.out (fun _ _ h => IsX.below v.below HBC.out _ _ h)) ((r_vals2.below HBU.out HBB.out (fun _ _ h => IsX.below HBU.out HBB.out _ _ h)).below v.below HBC.out (fun _ _ h => IsX.below v.below HBC.out _ _ h)) (Nat.le_trans HBC.out v.below.size) (by omega) (by omega)))
     obtain ⟨t3, ht3⟩ := nam (eqB x.vals y.vals)
     rw [ht3] at HC3
     obtain ⟨v0, hv0⟩ := Ext.start p2.w.heap.size p2.w
     have HTS := Lib.hid (show _ ∧ _ ∧ _ ∧ _ ∧ _ ∧ _ from ⟨hx, hy, ht0, ht1, ht2, ht3⟩)
     clear hx hy hx1 hy1 g f ht1 ht2 ht3 s_labels1 r_labels1 s_keys1 r_keys1 s_vals1 r_vals1 s_labels2 r_labels2 s_keys2 r_keys2 s_vals2 r_vals2 x_labels x_keys x_vals y_labels y_keys y_vals
     go_upto_region 7 with (refine wpList_store_mid rfl 62 _ _ rfl u.w.heap.size 0 #[.string x.var, .slice a_labels1 x.labels.length c_labels1, .slice a_keys1 x.keys.length c_keys1, .slice a_vals1 x.vals.length c_vals1] rfl rfl HT1.out (by kernel_rfl) (by simp [Value.oneCell']) ?_)
     rw [HX1.out]
     go_upto_region 8 with (refine wpList_store_mid rfl 62 _ _ rfl p1.w.heap.size 0 #[.string y.var, .slice a_labels2 y.labels.length c_labels2, .slice a_keys2 y.keys.length c_keys2, .slice a_vals2 y.vals.length c_vals2] rfl rfl HT2.out (by kernel_rfl) (by simp [Value.oneCell']) ?_)
     rw [HX2.out, hv0]
     cases t0
     ·exact Sg321213
     cases t1
     ·exact Sg321213
     cases t2
     ·exact Sg321213
     cases t3
     ·exact Sg321213
     go_wp2_with (first | (go_at_call 105; (with_reducible refine (HC1.out _).mono ?_); rintro e w2 ⟨rfl, v1, rfl⟩) | (go_at_call 105; (with_reducible refine (HC2.out _).mono ?_); rintro e w2 ⟨rfl, v2, rfl⟩) | (go_at_call 107; (with_reducible refine (HC3.out _).mono ?_); rintro e w2 ⟨rfl, v3, rfl⟩))
     go_round
     case rel =>
      obtain ⟨hx, hy, ht0, ht1, ht2, ht3⟩ := HTS.out
      exact ⟨j + 1, famE p2 HSZ.out _, by go_num, by omega, Lib.hid (by rw [take_succ_get hx, take_succ_get hy, HALL.out, np_eq ht0 ht1 ht2 ht3]), rfl⟩
     case measure => simp [intOf]; omega
    ·have hlt' : ¬ (j : Int) < kn1 := by omega
     go_wp2_with fail
     have HNL : Hid (nl1 = nl2) := Lib.hid (by have h := HALL.out; rwa [List.take_of_length_le (by have := HM1.out; omega), List.take_of_length_le (by have := HM2.out; omega)] at h)
     clear HALL hj hlt hlt'
     skip
     go_loopw [8] (fun iv wr => ∃ (j : Nat) (u : Ext (w.heap.size + 2) W0), iv = .int .i64 j ∧ j ≤ ke1 ∧ Hid (el1.take j = el2.take j) ∧ wr = u.w) (fun iv _ => ke1 - (intOf iv).toNat)
     case atStart => exact ⟨0, u, rfl, Nat.zero_le _, Lib.hid rfl, rfl⟩
     case round =>
      obtain ⟨j, u, rfl, hj, HALL, rfl⟩ := hrel
      by_cases hlt : j < ke1
      ·have hlt' : (j : Int) < ke1 := by omega
       have hj0 : (0 : Int) ≤ (j : Int) := by omega
       have hwi : IntKind.i64.wrap ((j : Int) + 1) = (j : Int) + 1 := IntWalk.i64_in _ (by omega)
       obtain ⟨x, hx⟩ := get_some (l := el1) (j := j) (by have := HM3.out; omega)
       obtain ⟨y, hy⟩ := get_some (l := el2) (j := j) (by have := HM4.out; omega)
       obtain ⟨b1, o1, cs1, rfl, hb1, g, hx1⟩ := HRe1.out j x hx
       obtain ⟨b2, o2, cs2, rfl, hb2, f, hy1⟩ := HRe2.out j y hy
       obtain ⟨a_keys1, c_keys1, a_vals1, c_vals1, rfl, hi1, s_keys1, r_keys1, s_vals1, r_vals1⟩ := hx1 u
       obtain ⟨a_keys2, c_keys2, a_vals2, c_vals2, rfl, hi2, s_keys2, r_keys2, s_vals2, r_vals2⟩ := hy1 u
       obtain ⟨x_keys, x_vals⟩ := ep_le (HWE1.out x (List.mem_of_getElem? hx))
       obtain ⟨y_keys, y_vals⟩ := ep_le (HWE2.out y (List.mem_of_getElem? hy))
       have g0 : ∀ u : Ext (w.heap.size + 2) W0, u.w.cell? ⟨b1, o1 + j * 5, none⟩ = some _ := fun u => g u 0 _ rfl
       obtain ⟨g1, g2, g3, g4⟩ := gf4 g
       have f0 : ∀ u : Ext (w.heap.size + 2) W0, u.w.cell? ⟨b2, o2 + j * 5, none⟩ = some _ := fun u => f u 0 _ rfl
       obtain ⟨f1, f2, f3, f4⟩ := gf4 f
       obtain ⟨p1, HX1, HB1, HK1, HS1, HT1⟩ := nw_box u HSZ.out [.string ⟨#[]⟩, .string ⟨#[]⟩, .int .i64 0, .slice none 0 0, .slice none 0 0] [.string x.var, .string x.ty, .int .i64 x.dir, .slice a_keys1 x.keys.length c_keys1, .slice a_vals1 x.vals.length c_vals1] 64
       obtain ⟨p2, HX2, HB2, HK2, HS2, HT2⟩ := nw_box p1 HSZ.out [.string ⟨#[]⟩, .string ⟨#[]⟩, .int .i64 0, .slice none 0 0, .slice none 0 0] [.string y.var, .string y.ty, .int .i64 y.dir, .slice a_keys2 y.keys.length c_keys2, .slice a_vals2 y.vals.length c_vals2] 64
       replace HK1 := Lib.hid (HK1.out.below HB2.out HK1.out.lt)
       obtain ⟨k0, k1, k2, k3, k4⟩ := bx5 HK1
       obtain ⟨m0, m1, m2, m3, m4⟩ := bx5 HK2
       have HBU : Hid (Below u.w.heap.size u.w p2.w) := Lib.hid (below_tr HB1.out HB2.out)
       have HBB : Hid (B ≤ u.w.heap.size) := Lib.hid (Nat.le_trans hB (HBE.out u).size)
       have HBC : Hid (B ≤ p2.w.heap.size) := Lib.hid (Nat.le_trans HBB.out HBU.out.size)
       have HLF := Lib.hid (fun v : Ext p2.w.heap.size p2.w => Below.trans (HBE.out u) ((HBU.out.trans (v.below.mono HBU.out.size)).mono (HBE.out u).size))
       obtain ⟨t0, ht0⟩ := nam ((x.var.toList == y.var.toList))
       obtain ⟨t1, ht1⟩ := nam ((x.ty.toList == y.ty.toList))
       obtain ⟨t2, ht2⟩ := nam ((x.dir == y.dir))
       have HC3 := Lib.hid (fun v : Ext p2.w.heap.size p2.w => ext_call v (Nat.le_refl _) (sameNames_any x.keys y.keys a_keys1 a_keys2 c_keys1 c_keys2 B v.w ((r_keys1.below HBU.out HBB.out).below v.below HBC.out) ((r_keys2.below HBU.out HBB.out).below v.below HBC.out) (Nat.le_trans HBC.out v.below.size) (by omega) (by omega)))
       obtain ⟨t3, ht3⟩ := nam (decide (x.keys = y.keys))
       rw [ht3] at HC3
       have HC4 := Lib.hid (fun v : Ext p2.w.heap.size p2.w => ext_call v (Nat.le_refl _) (sameXs_of x.vals (fun t _ => sameX_any t) y.vals a_vals1 a_vals2 c_vals1 c_vals2 B v.w ((r_vals1.below HBU.out HBB.out (fun _ _ h => IsX.below HBU.out HBB.out _ _ h)).below v.below HBC.out (fun _ _ h => IsX.below v.below HBC.out _ _ h)) ((r_vals2.below HBU.out HBB.out (fun _ _ h => IsX.below HBU.out HBB.out _ _ h)).below v.below HBC.out (fun _ _ h => IsX.below v.below HBC.out _ _ h)) (Nat.le_trans HBC.out v.below.size) (by omega) (by omega)))
       obtain ⟨t4, ht4⟩ := nam (eqB x.vals y.vals)
       rw [ht4] at HC4
       obtain ⟨v0, hv0⟩ := Ext.start p2.w.heap.size p2.w
       have HTS := Lib.hid (show _ ∧ _ ∧ _ ∧ _ ∧ _ ∧ _ ∧ _ from ⟨hx, hy, ht0, ht1, ht2, ht3, ht4⟩)
       clear hx hy hx1 hy1 g f ht3 ht4 hi1 s_keys1 r_keys1 s_vals1 r_vals1 hi2 s_keys2 r_keys2 s_vals2 r_vals2 x_keys x_vals y_keys y_vals
       have hn2 : (x.dir != y.dir) = !t2 := by have h := HTS.out.2.2.2.2.1; rw [← h]; rfl
       go_upto_region 14 with (refine wpList_store_mid rfl 64 _ _ rfl u.w.heap.size 0 #[.string x.var, .string x.ty, .int .i64 x.dir, .slice a_keys1 x.keys.length c_keys1, .slice a_vals1 x.vals.length c_vals1] rfl rfl HT1.out (by kernel_rfl) (by simp [Value.oneCell']) ?_)
       rw [HX1.out]
       go_upto_region 15 with (refine wpList_store_mid rfl 64 _ _ rfl p1.w.heap.size 0 #[.string y.var, .string y.ty, .int .i64 y.dir, .slice a_keys2 y.keys.length c_keys2, .slice a_vals2 y.vals.length c_vals2] rfl rfl HT2.out (by kernel_rfl) (by simp [Value.oneCell']) ?_)
       rw [HX2.out, hv0]
       cases t0
       ·exact Sg608242
       cases t1
       ·exact Sg608242
       cases t2
       ·exact Sg608242
       cases t3
       ·exact Sg608242
       cases t4
       ·exact Sg608242
       go_wp2_with (first | (go_at_call 105; (with_reducible refine (HC3.out _).mono ?_); rintro e w2 ⟨rfl, v3, rfl⟩) | (go_at_call 107; (with_reducible refine (HC4.out _).mono ?_); rintro e w2 ⟨rfl, v4, rfl⟩))
       go_round
       case rel =>
        obtain ⟨hx, hy, ht0, ht1, ht2, ht3, ht4⟩ := HTS.out
        exact ⟨j + 1, famE p2 HSZ.out _, by go_num, by omega, Lib.hid (by rw [take_succ_get hx, take_succ_get hy, HALL.out, ep_eq ht0 ht1 ht2 ht3 ht4]), rfl⟩
       case measure => simp [intOf]; omega
      ·have hlt' : ¬ (j : Int) < ke1 := by omega
       go_wp2_with fail
       go_ret
       have hje : j = ke1 := by omega
       subst hje
       have hnt : eqB (⟨nl1, el1⟩ : Ptt) ⟨nl2, el2⟩ = true := by
        rw [eqB_iff, Ptt.mk.injEq]
        refine ⟨HNL.out, ?_⟩
        have h := HALL.out
        rwa [List.take_of_length_le (by have := HM3.out; omega), List.take_of_length_le (by have := HM4.out; omega)] at h
       rw [hnt]
       exact ⟨rfl, HBE.out _⟩
  ·have hi1 : ((kn1 : Int) != (kn1 : Int)) = false := by simp
   have hi2 : ((ke1 : Int) != (ke2 : Int)) = true := by simp; omega
   go_enter Tryz.func109, Tryz.ntmps109
   go_upto_region 1 with fail
   rw [HW0.out, HU0.out]
   go_wp2_with fail
   go_ret
   have hnf : eqB (⟨nl1, el1⟩ : Ptt) ⟨nl2, el2⟩ = false := eqB_of (q := false) ⟨fun h => (by cases h), fun h => (by injection h with h1 h2; exact absurd (by rw [← HM3.out, ← HM4.out, h2]) he)⟩
   rw [hnf]
   exact ⟨rfl, HBE.out _⟩
 ·have hi1 : ((kn1 : Int) != (kn2 : Int)) = true := by simp; omega
  go_enter Tryz.func109, Tryz.ntmps109
  go_upto_region 1 with fail
  rw [HW0.out, HU0.out]
  go_wp2_with fail
  go_ret
  have hnf : eqB (⟨nl1, el1⟩ : Ptt) ⟨nl2, el2⟩ = false := eqB_of (q := false) ⟨fun h => (by cases h), fun h => (by injection h with h1 h2; exact absurd (by rw [← HM1.out, ← HM2.out, h1]) hn)⟩
  rw [hnf]
  exact ⟨rfl, HBE.out _⟩
end Go.Proofs.YtndhpdclpgemfaaGreat

/- Parts X42, X43 of this seat (pruned, scripts that are alike kept once as default arguments: q1, q2, ..). Conditions: each says its own. -/
import Derived.Deep.CutBlock
import Derived.Test.YtndhpdclpgemfaaGreatV21
namespace Go.Proofs.YtndhpdclpgemfaaGreat
open Go.RowKit Go.Shelf
set_option linter.unusedSimpArgs false
set_option linter.unusedVariables false
set_option maxRecDepth 100000
theorem add2 (p q : List UInt8) (A B : ByteArray) (hA : strOf p = A) (hB : strOf q = B) (u : World) (h : p.length + q.length ≤ 9223372036854775807) {r : List UInt8} (hr : p ++ q = r) : (Op.stringOp .add A B).run Tryz.prog u = .ok (.string (strOf r)) u := by
 subst hA
 exact add_of p q B hB u h hr
def RTextSaid (d : Nat) : Prop := ∀ (t : Ex) (cs : List Value) (B : Nat) (w : World), IsX B w cs t → B ≤ w.heap.size → deepB d t = true → wtX t ≤ 1048576 →
  Calls Tryz.prog 36 #[.agg cs.toArray] w fun e w' => e = .returned (.string (strOf (textX t))) ∧ Below w.heap.size w w'
def RNeedSaid (d : Nat) : Prop := ∀ (t : Ex) (cs : List Value) (B : Nat) (w : World) (need : Int), IsX B w cs t → B ≤ w.heap.size → deepB d t = true → wtX t ≤ 1048576 →
  Calls Tryz.prog 86 #[.agg cs.toArray, .int .i64 need] w fun e w' => e = .returned (.string (strOf (needX need t))) ∧ Below w.heap.size w w'
def RListSaid (d : Nat) : Prop := ∀ (az : List Ex) (xa : Option Addr) (xc B : Nat) (w : World), RowR (IsX B w) 10 B w xa az → B ≤ w.heap.size → (∀ (j : Nat) t, az[j]? = some t → deepB d t = true) → wtXs az ≤ 1048576 →
  Calls Tryz.prog 87 #[.slice xa az.length xc] w fun e w' => e = .returned (.string (strOf (jn (az.map textX)))) ∧ Below w.heap.size w w'
set_option maxHeartbeats 16000000 in
theorem rneed_of (d : Nat) (H : RTextSaid d) : RNeedSaid d := by
 intro t cs B w need hX hB hD hw
 have hX0 := hX
 obtain ⟨q, hq⟩ := nam (needX need t)
 rw [hq]
 obtain ⟨T, hT⟩ := nam (textX t)
 have htl : T.length ≤ 67108864 := by have := textX_len t; rw [hT] at this; omega
 obtain ⟨cl, hcl⟩ := nam (clX t)
 have hqq : q = if cl < need then [40] ++ T ++ [41] else T := by rw [← hq, ← hcl, ← hT]; rfl
 clear hq
 obtain ⟨op, nm, v, ns, az⟩ := t
 have hcl' : closeB op nm = cl := hcl
 obtain ⟨k, b, i, s, l, ks, la, lc, ka, kc, na, nc, xa, xc, hv, rfl, hop, hV, hNA, hXA, hNS, hAZ⟩ := hX.cells
 clear hX
 obtain ⟨m, hm⟩ := nam az.length
 obtain ⟨n, hn⟩ := nam ns.length
 rw [hm, hn] at hX0 ⊢
 obtain ⟨W0, u0, hW0, hu0, hsz, hbe, hce⟩ := box_ext w [.int .i64 op, .string nm, .int .i64 k, .bool b, .int .i64 i, .string s, .slice la l.length lc, .slice ka ks.length kc, .slice na n nc, .slice xa m xc] 36
 obtain ⟨e0, e1, e2, e3, e4, e5, e6, e7, e8, e9⟩ := ge10 hce
 obtain ⟨x0, x1, x2, x3, x4, x5, x6, x7, x8, x9⟩ := gx10 hce u0
 rw [← hu0, ← hW0] at x0 x1 x2 x3 x4 x5 x6 x7 x8 x9
 have HCLO := Lib.hid (fun u : Ext (w.heap.size + 1) W0 => ext_call u hsz (rclose_any _ op nm v ns az rfl _ B u.w (IsX.below (hbe u) hB _ _ hX0)))
 rw [hcl'] at HCLO
 have HTX := Lib.hid (fun u : Ext (w.heap.size + 1) W0 => ext_call u hsz (H _ _ B u.w (IsX.below (hbe u) hB _ _ hX0) (Nat.le_trans hB (hbe u).size) hD hw))
 rw [hT] at HTX
 obtain ⟨HBE, HW0, HU0⟩ := hd3 hbe hW0 hu0
 clear hbe hW0 hu0 hsz hce hNS hm hn hv hV hNA hXA hAZ hX0 hw hop hcl hcl' hT hD
 by_cases hlt : cl < need
 ·rw [if_pos hlt] at hqq
  have hdl : decide (cl < need) = true := decide_eq_true hlt
  obtain ⟨Ya1, hYa1⟩ : ∃ Y, ([40] : List UInt8) ++ T = Y := ⟨_, rfl⟩
  have hla1 : Ya1.length = 1 + (T).length := by rw [← hYa1, List.length_append]; (first | done | rfl)
  have haa1 : ∀ u, (Op.stringOp .add (⟨#[40]⟩ : ByteArray) (strOf T)).run Tryz.prog u = .ok (.string (strOf Ya1)) u := fun u => add2 _ _ _ _ rfl rfl u (by show 1 + (T).length ≤ 9223372036854775807; omega) hYa1
  obtain ⟨Ya2, hYa2⟩ : ∃ Y, (Ya1 : List UInt8) ++ [41] = Y := ⟨_, rfl⟩
  have hla2 : Ya2.length = (Ya1).length + 1 := by rw [← hYa2, List.length_append]; (first | done | rfl)
  have haa2 : ∀ u, (Op.stringOp .add (strOf Ya1) (⟨#[41]⟩ : ByteArray)).run Tryz.prog u = .ok (.string (strOf Ya2)) u := fun u => add2 _ _ _ _ rfl rfl u (by show (Ya1).length + 1 ≤ 9223372036854775807; omega) hYa2
  have HQ : Hid (strOf q = strOf Ya2) := Lib.hid (by rw [hqq, ← hYa2, ← hYa1])
  clear hYa1 hYa2 hqq
  go_enter Tryz.func86, Tryz.ntmps86
  go_upto_region 1 with fail
  rw [HW0.out, HU0.out]
  go_wp2_with fail
  refine (HCLO.out _).mono ?_
  rintro e w2 ⟨rfl, u2, rfl⟩
  go_wp2_with fail
  refine (HTX.out _).mono ?_
  rintro e w3 ⟨rfl, u3, rfl⟩
  go_wp2_with fail
  go_ret
  exact ⟨by rw [HQ.out]; rfl, HBE.out _⟩
 ·rw [if_neg hlt] at hqq
  have hdl : decide (cl < need) = false := decide_eq_false hlt
  subst hqq
  go_enter Tryz.func86, Tryz.ntmps86
  go_upto_region 1 with fail
  rw [HW0.out, HU0.out]
  go_wp2_with fail
  refine (HCLO.out _).mono ?_
  rintro e w2 ⟨rfl, u2, rfl⟩
  go_wp2_with fail
  refine (HTX.out _).mono ?_
  rintro e w3 ⟨rfl, u3, rfl⟩
  go_wp2_with fail
  go_ret
  exact ⟨rfl, HBE.out _⟩
set_option maxHeartbeats 16000000 in
theorem rlist_of (d : Nat) (H : RTextSaid d) : RListSaid d := by
 intro az xa xc B w hR hB hD hw
 have HAT : Hid (∀ (j : Nat) t, az[j]? = some t → ∃ b off cs, xa = some ⟨b, off, none⟩ ∧ b < B ∧ (∀ (u : Ext w.heap.size w) (q : Nat) v, cs[q]? = some v → u.w.cell? ⟨b, off + j * 10 + q, none⟩ = some v) ∧ ∀ u : Ext w.heap.size w, IsX B u.w cs t) := Lib.hid (fun j t ht => by obtain ⟨b, off, cs, h1, h2, h3, h4, h5⟩ := hR.at_gen (R := fun v => IsX B v) (f := fun u : Ext w.heap.size w => u.w) hB (fun u => u.below) (fun u cs x h => IsX.below u.below hB _ _ h) ht; exact ⟨b, off, cs, h1, h2, h4, h5⟩)
 have hm0 : az.length ≤ 1048576 := by have := wtXs_len az; omega
 have HWT : Hid (∀ (j : Nat) (t : Ex), az[j]? = some t → wtX t ≤ 1048576 ∧ deepB d t = true) := Lib.hid (fun j t h => ⟨by have := wtXs_get h; omega, hD j t h⟩)
 have HAL : Hid (∀ j, (jn ((az.map textX).take j)).length ≤ 67108864) := Lib.hid (fun j => Nat.le_trans (jn_len _) (Nat.le_trans (sum_take_le (fun x : List UInt8 => x.length + 2) (az.map textX) j) (Nat.le_trans (texts_sum az) (by omega))))
 obtain ⟨m, hm⟩ := nam az.length
 rw [hm] at hm0 ⊢
 have HM := Lib.hid hm
 have HB := Lib.hid hB
 clear hR hB hw hm hD
 obtain ⟨u0, hu0⟩ := Ext.start w.heap.size w
 have HU0 := Lib.hid hu0
 clear hu0
 go_enter Tryz.func87, Tryz.ntmps87
 go_wp2_with fail
 go_loopw [3, 4] (fun sv iv wr => ∃ (j : Nat) (u : Ext w.heap.size w), sv = .string (strOf (jn ((az.map textX).take j))) ∧ iv = .int .i64 j ∧ j ≤ m ∧ wr = u.w) (fun _ iv _ => m - (intOf iv).toNat)
 case atStart => exact ⟨0, u0, rfl, rfl, Nat.zero_le _, HU0.out⟩
 case round =>
  obtain ⟨j, u, rfl, rfl, hj, rfl⟩ := hrel
  by_cases hlt : j < m
  ·have hlt' : (j : Int) < m := by omega
   have hj0 : (0 : Int) ≤ (j : Int) := by omega
   have hwi : IntKind.i64.wrap ((j : Int) + 1) = (j : Int) + 1 := IntWalk.i64_in _ (by omega)
   obtain ⟨t2, ht2⟩ := get_some (l := az) (j := j) (by have := HM.out; omega)
   obtain ⟨eb, eo, cs2, rfl, heb, hcs, hx2⟩ := HAT.out j t2 ht2
   have HIH2 := Lib.hid (fun u : Ext w.heap.size w => H t2 cs2 B u.w (hx2 u) (Nat.le_trans HB.out u.below.size) (HWT.out j t2 ht2).2 (HWT.out j t2 ht2).1)
   obtain ⟨T, hT⟩ := nam (textX t2)
   have htl : T.length ≤ 67108864 := by have := textX_len t2; rw [hT] at this; have := (HWT.out j t2 ht2).1; omega
   rw [hT] at HIH2
   have hsn := jn_snoc ((az.map textX).take j) T
   rw [← (show (az.map textX).take (j + 1) = (az.map textX).take j ++ [T] from by rw [take_succ_get (by rw [List.getElem?_map, ht2]; rfl), hT])] at hsn
   have hal := HAL.out j
   obtain ⟨J, hJ⟩ := nam (jn ((az.map textX).take j))
   have hJ0e := hJ
   have hjn : (az.map textX).take j = [] ↔ j = 0 := by rw [List.take_eq_nil_iff]; constructor; (rintro (h | h); exact h; rw [List.map_eq_nil_iff] at h; rw [h] at ht2; simp at ht2); exact .inl
   rw [hJ] at hal hsn ⊢
   obtain ⟨op2, nm2, v2, ns2, az2⟩ := t2
   obtain ⟨k2, b2, i2, s2, l2, ks2, la2, lc2, ka2, kc2, na2, nc2, xa2, xc2, -, rfl, -⟩ := (hx2 u).cells
   have g0 : ∀ u : Ext w.heap.size w, u.w.cell? ⟨eb, eo + j * 10, none⟩ = some (.int .i64 op2) := fun u => hcs u 0 _ rfl
   obtain ⟨g1, g2, g3, g4, g5, g6, g7, g8, g9⟩ := gf9 hcs
   clear hcs hx2 ht2 hT hJ heb
   generalize l2.length = y1 at *
   generalize ks2.length = y2 at *
   generalize ns2.length = y3 at *
   generalize az2.length = y4 at *
   have HJ0 : Hid (j = 0 → J = []) := Lib.hid (fun h => by rw [← hJ0e, h]; rfl)
   clear hJ0e
   rcases j with _ | j
   ·have hz : decide (((0 : Nat) : Int) > 0) = false := by decide
    simp only [Nat.zero_mul, Nat.add_zero, Nat.zero_add] at g0 g1 g2 g3 g4 g5 g6 g7 g8 g9
    obtain ⟨Yb1, hYb1⟩ : ∃ Y, (J : List UInt8) ++ T = Y := ⟨_, rfl⟩
    have hlb1 : Yb1.length = (J).length + (T).length := by rw [← hYb1, List.length_append]; (first | done | rfl)
    have hab1 : ∀ u, (Op.stringOp .add (strOf J) (strOf T)).run Tryz.prog u = .ok (.string (strOf Yb1)) u := fun u => add2 _ _ _ _ rfl rfl u (by show (J).length + (T).length ≤ 9223372036854775807; omega) hYb1
    have HSN : Hid (jn ((az.map textX).take (0 + 1)) = Yb1) := Lib.hid (by rw [hsn, if_pos (hjn.2 rfl), ← hYb1]; (try rw [show J = [] from HJ0.out rfl]); (first | done | rfl))
    clear hsn hjn hYb1
    go_wp2_with fail
    refine (HIH2.out _).mono ?_
    rintro e w3 ⟨rfl, hb3⟩
    obtain ⟨u3, hu3⟩ := ext_next _ (Nat.le_refl _) hb3
    subst hu3
    clear hb3
    go_wp2_with fail
    go_roundw
    case rel => exact ⟨0 + 1, u3, by rw [HSN.out], by go_num, by omega, rfl⟩
    case measure => simp [intOf]; omega
   ·have hz : decide ((0 : Int) < ((j + 1 : Nat) : Int)) = true := by first | (simp; done) | (simp; omega)
    obtain ⟨Yc1, hYc1⟩ : ∃ Y, (J : List UInt8) ++ [44, 32] = Y := ⟨_, rfl⟩
    have hlc1 : Yc1.length = (J).length + 2 := by rw [← hYc1, List.length_append]; (first | done | rfl)
    have hac1 : ∀ u, (Op.stringOp .add (strOf J) (⟨#[44, 32]⟩ : ByteArray)).run Tryz.prog u = .ok (.string (strOf Yc1)) u := fun u => add2 _ _ _ _ rfl rfl u (by show (J).length + 2 ≤ 9223372036854775807; omega) hYc1
    obtain ⟨Yc2, hYc2⟩ : ∃ Y, (Yc1 : List UInt8) ++ T = Y := ⟨_, rfl⟩
    have hlc2 : Yc2.length = (Yc1).length + (T).length := by rw [← hYc2, List.length_append]; (first | done | rfl)
    have hac2 : ∀ u, (Op.stringOp .add (strOf Yc1) (strOf T)).run Tryz.prog u = .ok (.string (strOf Yc2)) u := fun u => add2 _ _ _ _ rfl rfl u (by show (Yc1).length + (T).length ≤ 9223372036854775807; omega) hYc2
    have HSN : Hid (jn ((az.map textX).take (j + 1 + 1)) = Yc2) := Lib.hid (by rw [hsn, if_neg (fun h => by have := hjn.1 h; omega), ← hYc2, ← hYc1])
    clear hsn hjn hYc1 hYc2
    go_wp2_with fail
    refine (HIH2.out _).mono ?_
    rintro e w3 ⟨rfl, hb3⟩
    obtain ⟨u3, hu3⟩ := ext_next _ (Nat.le_refl _) hb3
    subst hu3
    clear hb3
    go_wp2_with fail
    go_roundw
    case rel => exact ⟨j + 1 + 1, u3, by rw [HSN.out], by go_num, by omega, rfl⟩
    case measure => simp [intOf]; omega
  ·have hlt' : ¬ (j : Int) < m := by omega
   have HE : Hid ((az.map textX).take j = az.map textX) := Lib.hid (List.take_of_length_le (by have := HM.out; simp; omega))
   rw [HE.out]
   go_wp2_with fail
   go_ret
   exact ⟨rfl, u.below⟩
theorem withK_get {ns : List ByteArray} {T : List (List UInt8)} {j : Nat} {k : ByteArray} {t : List UInt8} (h1 : ns[j]? = some k) (h2 : T[j]? = some t) : (withK ns T)[j]? = some (keyTL k ++ [58, 32] ++ t) := by
 unfold withK
 rw [List.getElem?_zipWith, h1, h2]
theorem keyTL_str (k : ByteArray) : strOf (keyTL k) = keyT k := strOf_toList _
def RPropsSaid (d : Nat) : Prop := ∀ (ns : List ByteArray) (az : List Ex) (ka xa : Option Addr) (kc xc B : Nat) (w : World), StrRow B w ka ns → RowR (IsX B w) 10 B w xa az → ns.length = az.length → B ≤ w.heap.size → (∀ (j : Nat) t, az[j]? = some t → deepB d t = true) → wtXs az ≤ 1048576 → wtS ns ≤ 1048576 →
  Calls Tryz.prog 88 #[.slice ka ns.length kc, .slice xa az.length xc] w fun e w' => e = .returned (.string (strOf (propsX ns az))) ∧ Below w.heap.size w w'
set_option maxHeartbeats 32000000 in
theorem rprops_of (d : Nat) (H : RTextSaid d) : RPropsSaid d := by
 intro ns az ka xa kc xc B w hK hR hnl hB hD hw hws
 have HAT : Hid (∀ (j : Nat) t, az[j]? = some t → ∃ b off cs, xa = some ⟨b, off, none⟩ ∧ b < B ∧ (∀ (u : Ext w.heap.size w) (q : Nat) v, cs[q]? = some v → u.w.cell? ⟨b, off + j * 10 + q, none⟩ = some v) ∧ ∀ u : Ext w.heap.size w, IsX B u.w cs t) := Lib.hid (fun j t ht => by obtain ⟨b, off, cs, h1, h2, h3, h4, h5⟩ := hR.at_gen (R := fun v => IsX B v) (f := fun u : Ext w.heap.size w => u.w) hB (fun u => u.below) (fun u cs x h => IsX.below u.below hB _ _ h) ht; exact ⟨b, off, cs, h1, h2, h4, h5⟩)
 have HKA : Hid (∀ (j : Nat) k, ns[j]? = some k → ∃ b off, ka = some ⟨b, off, none⟩ ∧ b < B ∧ ∀ u : Ext w.heap.size w, u.w.cell? ⟨b, off + j, none⟩ = some (.string k)) := Lib.hid (fun j k hk => hK.at_any (f := fun u : Ext w.heap.size w => u.w) hB (fun u => u.below) hk)
 have hm0 : az.length ≤ 1048576 := by have := wtXs_len az; omega
 have HWT : Hid (∀ (j : Nat) (t : Ex), az[j]? = some t → wtX t ≤ 1048576 ∧ deepB d t = true) := Lib.hid (fun j t h => ⟨by have := wtXs_get h; omega, hD j t h⟩)
 have HWK : Hid (∀ (j : Nat) k, ns[j]? = some k → k.size ≤ 1048576) := Lib.hid (fun j k h => by have := wtS_get h; omega)
 obtain ⟨WK, hWK⟩ := nam (withK ns (az.map textX))
 have hpx : propsX ns az = [123] ++ jn WK ++ [125] := by rw [← hWK]; rfl
 obtain ⟨PX, hPX⟩ := nam (propsX ns az)
 rw [hPX] at hpx ⊢
 have HPX := Lib.hid hpx
 clear hPX
 have HAL : Hid (∀ j, (jn (WK.take j)).length ≤ 134217728) := Lib.hid (fun j => by have h1 := jn_len (WK.take j); have h2 := sum_take_le (fun x : List UInt8 => x.length + 2) WK j; have h3 := withK_sum ns (az.map textX); have h4 := texts_sum az; rw [hWK] at h3; omega)
 have HWL : Hid (WK.length = az.length) := Lib.hid (by rw [← hWK]; unfold withK; rw [List.length_zipWith, List.length_map]; omega)
 have HWG : Hid (∀ (j : Nat) k t, ns[j]? = some k → az[j]? = some t → WK[j]? = some (keyTL k ++ [58, 32] ++ textX t)) := Lib.hid (fun j k t h1 h2 => by rw [← hWK]; exact withK_get h1 (by rw [List.getElem?_map, h2]; rfl))
 obtain ⟨m, hm⟩ := nam az.length
 rw [hnl, hm]
 rw [hm] at hm0
 obtain ⟨HM, HNL, HB⟩ := hd3 hm hnl hB
 clear hR hK hB hw hws hm hnl hD hWK hpx
 obtain ⟨u0, hu0⟩ := Ext.start w.heap.size w
 have HU0 := Lib.hid hu0
 clear hu0
 go_enter Tryz.func88, Tryz.ntmps88
 go_wp2_with fail
 go_loopw [5, 6] (fun sv iv wr => ∃ (j : Nat) (u : Ext w.heap.size w), sv = .string (strOf (jn (WK.take j))) ∧ iv = .int .i64 j ∧ j ≤ m ∧ wr = u.w) (fun _ iv _ => m - (intOf iv).toNat)
 case atStart => exact ⟨0, u0, rfl, rfl, Nat.zero_le _, HU0.out⟩
 case round =>
  obtain ⟨j, u, rfl, rfl, hj, rfl⟩ := hrel
  by_cases hlt : j < m
  ·have hlt' : (j : Int) < m := by omega
   have hj0 : (0 : Int) ≤ (j : Int) := by omega
   have hwi : IntKind.i64.wrap ((j : Int) + 1) = (j : Int) + 1 := IntWalk.i64_in _ (by omega)
   obtain ⟨t2, ht2⟩ := get_some (l := az) (j := j) (by have := HM.out; omega)
   obtain ⟨k9, hk9⟩ := get_some (l := ns) (j := j) (by have := HM.out; have := HNL.out; omega)
   obtain ⟨eb, eo, cs2, rfl, heb, hcs, hx2⟩ := HAT.out j t2 ht2
   obtain ⟨kb, ko, rfl, hkb, hkc⟩ := HKA.out j k9 hk9
   have HTX := Lib.hid (fun u : Ext w.heap.size w => ext_call u (Nat.le_refl _) (H t2 cs2 B u.w (hx2 u) (Nat.le_trans HB.out u.below.size) (HWT.out j t2 ht2).2 (HWT.out j t2 ht2).1))
   have hks := HWK.out j k9 hk9
   have HKY := Lib.hid (fun u : Ext w.heap.size w => ext_call u (Nat.le_refl _) (rkeyT_any k9 u.w (by omega)))
   obtain ⟨T, hT⟩ := nam (textX t2)
   have htl : T.length ≤ 67108864 := by have := textX_len t2; rw [hT] at this; have := (HWT.out j t2 ht2).1; omega
   have hkl : (keyTL k9).length ≤ 8388608 := by have := keyTL_len k9; omega
   rw [hT] at HTX
   have hwg := HWG.out j k9 t2 hk9 ht2
   rw [hT] at hwg
   have hsn := jn_snoc (WK.take j) (keyTL k9 ++ [58, 32] ++ T)
   rw [← take_succ_get hwg] at hsn
   have hal := HAL.out j
   obtain ⟨J, hJ⟩ := nam (jn (WK.take j))
   have hJ0e := hJ
   have hjn : WK.take j = [] ↔ j = 0 := by rw [List.take_eq_nil_iff]; constructor; (rintro (h | h); exact h; rw [h] at hwg; simp at hwg); exact .inl
   rw [hJ] at hal hsn ⊢
   obtain ⟨op2, nm2, v2, ns2, az2⟩ := t2
   obtain ⟨k2, b2, i2, s2, l2, ks2, la2, lc2, ka2, kc2, na2, nc2, xa2, xc2, -, rfl, -⟩ := (hx2 u).cells
   have g0 : ∀ u : Ext w.heap.size w, u.w.cell? ⟨eb, eo + j * 10, none⟩ = some (.int .i64 op2) := fun u => hcs u 0 _ rfl
   obtain ⟨g1, g2, g3, g4, g5, g6, g7, g8, g9⟩ := gf9 hcs
   have gk := hkc
   have HJ0 : Hid (j = 0 → J = []) := Lib.hid (fun h => by rw [← hJ0e, h]; rfl)
   clear hJ0e hcs hx2 ht2 hk9 hT hJ heb hkb hkc hwg hks
   generalize l2.length = y1 at *
   generalize ks2.length = y2 at *
   generalize ns2.length = y3 at *
   generalize az2.length = y4 at *
   rcases j with _ | j
   ·have hz : decide (((0 : Nat) : Int) > 0) = false := by decide
    simp only [Nat.zero_mul, Nat.add_zero, Nat.zero_add] at g0 g1 g2 g3 g4 g5 g6 g7 g8 g9 gk
    obtain ⟨Yb1, hYb1⟩ : ∃ Y, (J : List UInt8) ++ keyTL k9 = Y := ⟨_, rfl⟩
    have hlb1 : Yb1.length = (J).length + (keyTL k9).length := by rw [← hYb1, List.length_append]; (first | done | rfl)
    have hab1 : ∀ u, (Op.stringOp .add (strOf J) (keyT k9)).run Tryz.prog u = .ok (.string (strOf Yb1)) u := fun u => add2 _ _ _ _ rfl (keyTL_str k9) u (by show (J).length + (keyTL k9).length ≤ 9223372036854775807; omega) hYb1
    obtain ⟨Yb2, hYb2⟩ : ∃ Y, (Yb1 : List UInt8) ++ [58, 32] = Y := ⟨_, rfl⟩
    have hlb2 : Yb2.length = (Yb1).length + 2 := by rw [← hYb2, List.length_append]; (first | done | rfl)
    have hab2 : ∀ u, (Op.stringOp .add (strOf Yb1) (⟨#[58, 32]⟩ : ByteArray)).run Tryz.prog u = .ok (.string (strOf Yb2)) u := fun u => add2 _ _ _ _ rfl rfl u (by show (Yb1).length + 2 ≤ 9223372036854775807; omega) hYb2
    obtain ⟨Yb3, hYb3⟩ : ∃ Y, (Yb2 : List UInt8) ++ T = Y := ⟨_, rfl⟩
    have hlb3 : Yb3.length = (Yb2).length + (T).length := by rw [← hYb3, List.length_append]; (first | done | rfl)
    have hab3 : ∀ u, (Op.stringOp .add (strOf Yb2) (strOf T)).run Tryz.prog u = .ok (.string (strOf Yb3)) u := fun u => add2 _ _ _ _ rfl rfl u (by show (Yb2).length + (T).length ≤ 9223372036854775807; omega) hYb3
    have HSN : Hid (jn (WK.take (0 + 1)) = Yb3) := Lib.hid (by rw [hsn, if_pos (hjn.2 rfl), ← hYb3, ← hYb2, ← hYb1]; rw [show J = [] from HJ0.out rfl]; simp)
    clear hsn hjn hYb1 hYb2 hYb3
    go_wp2_with fail
    (refine wp_region_at _ (by kernel_rfl) (by kernel_rfl) ?_; (repeat (go_big_quiet_step (first | (with_reducible exact HKY.out _) | (with_reducible exact HTX.out _)))); refine wpQuiet_nil ?_; rintro w9 ⟨u9, rfl⟩)
    go_wp2_with fail
    go_roundw
    case rel => exact ⟨0 + 1, u9, by rw [HSN.out], by go_num, by omega, rfl⟩
    case measure => simp [intOf]; omega
   ·have hz : decide ((0 : Int) < ((j + 1 : Nat) : Int)) = true := by first | (simp; done) | (simp; omega)
    obtain ⟨Yc1, hYc1⟩ : ∃ Y, (J : List UInt8) ++ [44, 32] = Y := ⟨_, rfl⟩
    have hlc1 : Yc1.length = (J).length + 2 := by rw [← hYc1, List.length_append]; (first | done | rfl)
    have hac1 : ∀ u, (Op.stringOp .add (strOf J) (⟨#[44, 32]⟩ : ByteArray)).run Tryz.prog u = .ok (.string (strOf Yc1)) u := fun u => add2 _ _ _ _ rfl rfl u (by show (J).length + 2 ≤ 9223372036854775807; omega) hYc1
    obtain ⟨Yc2, hYc2⟩ : ∃ Y, (Yc1 : List UInt8) ++ keyTL k9 = Y := ⟨_, rfl⟩
    have hlc2 : Yc2.length = (Yc1).length + (keyTL k9).length := by rw [← hYc2, List.length_append]; (first | done | rfl)
    have hac2 : ∀ u, (Op.stringOp .add (strOf Yc1) (keyT k9)).run Tryz.prog u = .ok (.string (strOf Yc2)) u := fun u => add2 _ _ _ _ rfl (keyTL_str k9) u (by show (Yc1).length + (keyTL k9).length ≤ 9223372036854775807; omega) hYc2
    obtain ⟨Yc3, hYc3⟩ : ∃ Y, (Yc2 : List UInt8) ++ [58, 32] = Y := ⟨_, rfl⟩
    have hlc3 : Yc3.length = (Yc2).length + 2 := by rw [← hYc3, List.length_append]; (first | done | rfl)
    have hac3 : ∀ u, (Op.stringOp .add (strOf Yc2) (⟨#[58, 32]⟩ : ByteArray)).run Tryz.prog u = .ok (.string (strOf Yc3)) u := fun u => add2 _ _ _ _ rfl rfl u (by show (Yc2).length + 2 ≤ 9223372036854775807; omega) hYc3
    obtain ⟨Yc4, hYc4⟩ : ∃ Y, (Yc3 : List UInt8) ++ T = Y := ⟨_, rfl⟩
    have hlc4 : Yc4.length = (Yc3).length + (T).length := by rw [← hYc4, List.length_append]; (first | done | rfl)
    have hac4 : ∀ u, (Op.stringOp .add (strOf Yc3) (strOf T)).run Tryz.prog u = .ok (.string (strOf Yc4)) u := fun u => add2 _ _ _ _ rfl rfl u (by show (Yc3).length + (T).length ≤ 9223372036854775807; omega) hYc4
    have HSN : Hid (jn (WK.take (j + 1 + 1)) = Yc4) := Lib.hid (by rw [hsn, if_neg (fun h => by have := hjn.1 h; omega), ← hYc4, ← hYc3, ← hYc2, ← hYc1]; simp)
    clear hsn hjn hYc1 hYc2 hYc3 hYc4
    go_wp2_with fail
    (refine wp_region_at _ (by kernel_rfl) (by kernel_rfl) ?_; (repeat (go_big_quiet_step (first | (with_reducible exact HKY.out _) | (with_reducible exact HTX.out _)))); refine wpQuiet_nil ?_; rintro w9 ⟨u9, rfl⟩)
    go_wp2_with fail
    go_roundw
    case rel => exact ⟨j + 1 + 1, u9, by rw [HSN.out], by go_num, by omega, rfl⟩
    case measure => simp [intOf]; omega
  ·have hlt' : ¬ (j : Int) < m := by omega
   have hal := HAL.out j
   have HE : Hid (WK.take j = WK) := Lib.hid (List.take_of_length_le (by have := HM.out; have := HWL.out; omega))
   rw [HE.out] at hal ⊢
   obtain ⟨J, hJ⟩ := nam (jn WK)
   rw [hJ] at hal ⊢
   obtain ⟨Yd1, hYd1⟩ : ∃ Y, ([123] : List UInt8) ++ J = Y := ⟨_, rfl⟩
   have hld1 : Yd1.length = 1 + (J).length := by rw [← hYd1, List.length_append]; (first | done | rfl)
   have had1 : ∀ u, (Op.stringOp .add (⟨#[123]⟩ : ByteArray) (strOf J)).run Tryz.prog u = .ok (.string (strOf Yd1)) u := fun u => add2 _ _ _ _ rfl rfl u (by show 1 + (J).length ≤ 9223372036854775807; omega) hYd1
   obtain ⟨Yd2, hYd2⟩ : ∃ Y, (Yd1 : List UInt8) ++ [125] = Y := ⟨_, rfl⟩
   have hld2 : Yd2.length = (Yd1).length + 1 := by rw [← hYd2, List.length_append]; (first | done | rfl)
   have had2 : ∀ u, (Op.stringOp .add (strOf Yd1) (⟨#[125]⟩ : ByteArray)).run Tryz.prog u = .ok (.string (strOf Yd2)) u := fun u => add2 _ _ _ _ rfl rfl u (by show (Yd1).length + 1 ≤ 9223372036854775807; omega) hYd2
   have HQ : Hid ([123] ++ J ++ [125] = Yd2) := Lib.hid (by rw [← hYd2, ← hYd1])
   have HJJ := Lib.hid hJ
   clear hYd1 hYd2 hJ
   go_wp2_with fail
   have HF : Hid (PX = Yd2) := Lib.hid (by rw [HPX.out, HJJ.out]; exact HQ.out)
   have hf := HF.out
   subst hf
   go_ret
   exact ⟨by rfl, u.below⟩
end Go.Proofs.YtndhpdclpgemfaaGreat

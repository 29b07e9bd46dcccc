/- Parts PSame, J, Map, Shaped of this seat (pruned, scripts that are alike kept once as default arguments: q1, q2, ..). Conditions: each says its own. -/
import Derived.Deep.RegionHeld3
import Derived.HandedShaped
import Derived.Test.YteljlahcdipilaaGreatF2
import Derived.Test.YteljlahcdipilaaGreatF3
namespace Go.Proofs.YteljlahcdipilaaGreat
open Go.RowKit
set_option linter.unusedSimpArgs false
set_option linter.unusedVariables false
set_option maxRecDepth 1000000 in
set_option maxHeartbeats 2000000 in
theorem pnames_any (ks ms : List ByteArray) (ka ma : Option Addr) (kc mc : Nat) (B : Nat) (w : World) (hk : StrRow B w ka ks) (hm : StrRow B w ma ms) (hB : B ≤ w.heap.size) (hkl : ks.length ≤ 9223372036854775807) (hml : ms.length ≤ 9223372036854775807) :
    Calls Tryz.prog 124 #[.slice ka ks.length kc, .slice ma ms.length mc] w fun e w' => e = .returned (.bool (decide (ks = ms))) ∧ Below w.heap.size w w' := by
 have HK := Lib.hid hk
 have HM := Lib.hid hm
 clear hk hm
 obtain ⟨R, hR⟩ := nam (decide (ks = ms))
 have HR := Lib.hid hR
 rw [hR]
 clear hR
 by_cases hn : ks.length = ms.length
 rotate_left
 ·have hnb : ((ks.length : Int) != (ms.length : Int)) = true := by simp; omega
  have HN : Hid (R = false) := Lib.hid (by rw [← HR.out]; exact decide_eq_false (fun e => hn (by rw [e])))
  go_enter Tryz.func124, Tryz.ntmps124
  go_wp2_with fail
  go_ret
  exact ⟨by rw [HN.out]; rfl, Below.refl _ _⟩
 have hnb : ((ks.length : Int) != (ms.length : Int)) = false := by simp; omega
 have HNL := Lib.hid hn
 clear hn
 go_enter Tryz.func124, Tryz.ntmps124
 go_wp2_with fail
 go_loopw [13] (fun iv wr => ∃ j : Nat, iv = .int .i64 j ∧ j ≤ ks.length ∧ Below w.heap.size w wr ∧ Hid (ks.take j = ms.take j)) (fun iv _ => ks.length - (intOf iv).toNat)
 case atStart => exact ⟨0, rfl, Nat.zero_le _, Below.refl _ _, Lib.hid rfl⟩
 case round =>
  obtain ⟨j, rfl, hj, hbr, ht⟩ := hrel
  have HBR := Lib.hid hbr
  clear hbr
  by_cases hlt : j < ks.length
  ·have hlt' : (j : Int) < ks.length := by omega
   have hlm : j < ms.length := by have := HNL.out; omega
   have hlm' : (j : Int) < ms.length := by omega
   have p0 : (0 : Int) ≤ (j : Int) := by omega
   obtain ⟨x, hx⟩ := get_some hlt
   obtain ⟨y, hy⟩ := get_some hlm
   obtain ⟨kb, ko, rfl, _, g1⟩ := StrRow.get (HK.out.below HBR.out hB) hx
   obtain ⟨mb, mo, rfl, _, g2⟩ := StrRow.get (HM.out.below HBR.out hB) hy
   have HX := Lib.hid hx
   have HY := Lib.hid hy
   clear hx hy
   have hbe := ba_beq x y
   by_cases he : x = y
   ·have hbt : (x.toList == y.toList) = true := by rw [hbe]; exact decide_eq_true he
    have HU : Hid (ks.take (j + 1) = ms.take (j + 1)) := Lib.hid (by rw [take_succ_some HX.out, take_succ_some HY.out, ht.out, he])
    clear hbe he
    go_wp2_with fail
    go_quiet (fail)
    go_wp2_with fail
    go_roundw
    case rel => exact ⟨j + 1, by go_num, by omega, below_draws HBR.out _, HU⟩
    case measure => simp [intOf]; omega
   ·have hbt : (x.toList == y.toList) = false := by rw [hbe]; exact decide_eq_false he
    have HN : Hid (R = false) := Lib.hid (by rw [← HR.out]; exact decide_eq_false (fun e => he (by have h1 := HX.out; rw [e, HY.out] at h1; exact (Option.some.inj h1).symm)))
    clear hbe he
    go_wp2_with fail
    go_quiet (fail)
    go_wp2_with fail
    go_ret
    exact ⟨by rw [HN.out]; rfl, below_draws HBR.out _⟩
  ·have hlt' : ¬ (j : Int) < ks.length := by omega
   have HN : Hid (R = true) := Lib.hid (by
    rw [← HR.out]
    have h1 := ht.out
    rw [List.take_of_length_le (by omega), List.take_of_length_le (by have := HNL.out; omega)] at h1
    exact decide_eq_true h1)
   go_wp2_with fail
   go_ret
   exact ⟨by rw [HN.out]; rfl, HBR.out⟩
def PSameSaid (a : Vt) : Prop := ∀ (b : Vt) (cs ds : List Value) (B : Nat) (w : World), IsV B w cs a → IsV B w ds b → B ≤ w.heap.size →
    Calls Tryz.prog 105 #[.agg cs.toArray, .agg ds.toArray] w fun e w' => e = .returned (.bool (sameV a b)) ∧ Below w.heap.size w w'
theorem Sq990076 {P : Prop} (h : P := by
 go_wp2_with fail
 refine (HCS.out _ (((Below.refl _ _).alloc (Nat.le_refl _) _).alloc (by simp) _)).mono ?_
 rintro e w2 ⟨rfl, hb2⟩
 have HB2 := Lib.hid (below_step ((HBR.out.alloc hz _).alloc (by simp; omega) _) rfl hb2)
 clear hb2 g0 g1 g2 g3 g4 g5 f0 f1 f2 f3 f4 f5
 go_wp2_with fail
 first
 |(
  guard_hyp z990076a
  go_roundw
  case rel => exact ⟨j + 1, by go_num, by omega, HB2, Lib.hid (by rw [ht.out, HST.out, Bool.true_and])⟩
  case measure => simp [intOf]; omega)
 |(
  go_ret
  exact ⟨by rw [ht.out, HST.out, Bool.false_and]; rfl, HB2.out⟩)) : P := h
set_option maxRecDepth 1000000 in
set_option maxHeartbeats 4000000 in
theorem psameList_any (l m : List Vt) (ih : ∀ (j : Nat) t, l[j]? = some t → PSameSaid t) (la ma : Option Addr) (lc mc : Nat) (B : Nat) (w : World) (hl : IsVs B w la 0 l) (hm : IsVs B w ma 0 m) (hB : B ≤ w.heap.size) (hll : l.length ≤ 9223372036854775807) (hml : m.length ≤ 9223372036854775807) :
    Calls Tryz.prog 125 #[.slice la l.length lc, .slice ma m.length mc, .func (.func 105) #[] #[]] w fun e w' => e = .returned (.bool (sameVs l m)) ∧ Below w.heap.size w w' := by
 have HL := Lib.hid hl
 have HM := Lib.hid hm
 have IH := Lib.hid ih
 clear hl hm ih
 obtain ⟨R, hR⟩ := nam (sameVs l m)
 have HR := Lib.hid hR
 rw [hR]
 clear hR
 by_cases hn : l.length = m.length
 rotate_left
 ·have hnb : ((l.length : Int) != (m.length : Int)) = true := by simp; omega
  have HN : Hid (R = false) := Lib.hid (by rw [← HR.out]; exact sameVs_len hn)
  go_enter Tryz.func125, Tryz.ntmps125
  go_wp2_with fail
  go_ret
  exact ⟨by rw [HN.out]; rfl, Below.refl _ _⟩
 have hnb : ((l.length : Int) != (m.length : Int)) = false := by simp; omega
 have HNL := Lib.hid hn
 clear hn
 go_enter Tryz.func125, Tryz.ntmps125
 go_wp2_with fail
 go_loopw [17] (fun iv wr => ∃ j : Nat, iv = .int .i64 j ∧ j ≤ l.length ∧ Hid (Below w.heap.size w wr) ∧ Hid (R = sameVs (l.drop j) (m.drop j))) (fun iv _ => l.length - (intOf iv).toNat)
 case atStart => exact ⟨0, rfl, Nat.zero_le _, Lib.hid (Below.refl _ _), Lib.hid HR.out.symm⟩
 case round =>
  obtain ⟨j, rfl, hj, HBR, ht⟩ := hrel
  by_cases hlt : j < l.length
  ·have hlt' : (j : Int) < l.length := by omega
   have hlm : j < m.length := by have := HNL.out; omega
   have hlm' : (j : Int) < m.length := by omega
   have p0 : (0 : Int) ≤ (j : Int) := by omega
   obtain ⟨t, hx⟩ := get_some hlt
   obtain ⟨u, hy⟩ := get_some hlm
   have HST := Lib.hid (sameVs_at hx hy)
   have hz := HBR.out.size
   obtain ⟨eb, eo, k1, b1, i1, s1, l1, ks1, la1, lc1, ka1, kc1, rfl, rfl, heb, ⟨g0, g1, g2, g3, g4, g5⟩, hV1⟩ := (HL.out.below HBR.out hB).at hx
   obtain ⟨fb, fo, k2, b2, i2, s2, l2, ks2, la2, lc2, ka2, kc2, rfl, rfl, hfb, ⟨f0, f1, f2, f3, f4, f5⟩, hV2⟩ := (HM.out.below HBR.out hB).at hy
   have HCS := Lib.hid (fun w' (hb : Below wr.heap.size wr w') => IH.out j _ hx _ _ _ B w' (IsV.below hb (Nat.le_trans hB hz) _ _ hV1) (IsV.below hb (Nat.le_trans hB hz) _ _ hV2) (Nat.le_trans hB (Nat.le_trans hz hb.size)))
   have hebr : eb < wr.heap.size := by omega
   have hfbr : fb < wr.heap.size := by omega
   clear hx hy hV1 hV2
   obtain ⟨eq, heq⟩ := nam (sameV (.mk k1 b1 i1 s1 l1 ks1) (.mk k2 b2 i2 s2 l2 ks2))
   rw [heq] at HCS HST
   clear heq
   cases eq with
   | true =>
    have z990076a := trivial
    exact Sq990076
   | false =>
    exact Sq990076
  ·have hlt' : ¬ (j : Int) < l.length := by omega
   have HN : Hid (R = true) := Lib.hid (by rw [ht.out, List.drop_of_length_le (by omega), List.drop_of_length_le (by have := HNL.out; omega)]; rfl)
   go_wp2_with fail
   go_ret
   exact ⟨by rw [HN.out]; rfl, HBR.out⟩
theorem Sq563961 {P : Prop} (h : P := by
 by_cases e3 : i = i'
 rotate_left
 ·have d3 : (i == i') = false := by simp; exact e3
  have D3 := Lib.hid (decide_eq_false e3)
  clear e3
  rw [D3.out]
  go_enter Tryz.func105, Tryz.ntmps105
  go_wp2_with fail
  go_ret
  exact ⟨by simp, HB0.out⟩
 subst e3
 have hbe := ba_beq s s'
 by_cases e4 : s = s'
 rotate_left
 ·have d4 : (s.toList == s'.toList) = false := by rw [hbe]; exact decide_eq_false e4
  have D4 := Lib.hid (decide_eq_false e4)
  clear e4 hbe
  rw [D4.out]
  go_enter Tryz.func105, Tryz.ntmps105
  go_wp2_with fail
  go_ret
  exact ⟨by simp, HB0.out⟩
 subst e4
 clear hbe
 cases nm with
 | false =>
  go_enter Tryz.func105, Tryz.ntmps105
  go_wp2_with fail
  refine (HN.out _ HB0.out).mono ?_
  rintro e w1 ⟨rfl, hb1⟩
  go_wp2_with fail
  go_ret
  exact ⟨by simp, below_step HB0.out rfl hb1⟩
 | true =>
  go_enter Tryz.func105, Tryz.ntmps105
  go_wp2_with fail
  refine (HN.out _ HB0.out).mono ?_
  rintro e w1 ⟨rfl, hb1⟩
  have HB1 := Lib.hid (below_step HB0.out rfl hb1)
  first
  |(
   guard_hyp z563961a
   have hBX := ((Block.new w [.int .i64 k, .bool false, .int .i64 i, .string s, .slice la l.length lc, .slice ka ks.length kc] 64).alloc (.cells #[.int .i64 k, .bool false, .int .i64 i, .string s, .slice la' l'.length lc', .slice ka' ks'.length kc'] 64)).below hb1 (by simp; omega)
   have hBY := (Block.new (w.alloc (.cells #[.int .i64 k, .bool false, .int .i64 i, .string s, .slice la l.length lc, .slice ka ks.length kc] 64)) [.int .i64 k, .bool false, .int .i64 i, .string s, .slice la' l'.length lc', .slice ka' ks'.length kc'] 64).below hb1 (by simp))
  |(
   have hBX := ((Block.new w [.int .i64 k, .bool true, .int .i64 i, .string s, .slice la l.length lc, .slice ka ks.length kc] 64).alloc (.cells #[.int .i64 k, .bool true, .int .i64 i, .string s, .slice la' l'.length lc', .slice ka' ks'.length kc'] 64)).below hb1 (by simp; omega)
   have hBY := (Block.new (w.alloc (.cells #[.int .i64 k, .bool true, .int .i64 i, .string s, .slice la l.length lc, .slice ka ks.length kc] 64)) [.int .i64 k, .bool true, .int .i64 i, .string s, .slice la' l'.length lc', .slice ka' ks'.length kc'] 64).below hb1 (by simp))
  have x4 := hBX.cell (i := 4) rfl
  have y4 : w1.cell? ⟨w.heap.size + 1, 4, none⟩ = some (.slice la' l'.length lc') := by have h := hBY.cell (i := 4) rfl; simpa using h
  clear hb1 hBX hBY
  go_wp2_with fail
  refine (HLS.out _ HB1.out).mono ?_
  rintro e w2 ⟨rfl, hb2⟩
  go_wp2_with fail
  go_ret
  exact ⟨by simp, below_step HB1.out rfl hb2⟩) : P := h
set_option maxRecDepth 1000000 in
set_option maxHeartbeats 4000000 in
theorem psame_any (a : Vt) : PSameSaid a := by
 refine a.down (p := PSameSaid) fun k b i s l ks ih c cs ds B w hV hU hB => ?_
 obtain ⟨k', b', i', s', l', ks'⟩ := c
 have IH := Lib.hid ih
 unfold IsV at hV hU
 obtain ⟨la, lc, ka, kc, rfl, hk64, hi64, ⟨hlc, hlm⟩, ⟨hkc, hkm⟩, hla, hka, hK, hL⟩ := hV
 obtain ⟨la', lc', ka', kc', rfl, hk64', hi64', ⟨hlc', hlm'⟩, ⟨hkc', hkm'⟩, hla', hka', hK', hL'⟩ := hU
 have HN := Lib.hid (fun w' (hb : Below w.heap.size w w') => pnames_any ks ks' ka ka' kc kc' B w' (hK.below hb hB) (hK'.below hb hB) (Nat.le_trans hB hb.size) (by omega) (by omega))
 have HLS := Lib.hid (fun w' (hb : Below w.heap.size w w') => psameList_any l l' IH.out la la' lc lc' B w' (IsVs.mk fun j t ht => by
     obtain ⟨b, off, cs, h1, h2, h3, h4⟩ := hL.get j t ht
     exact ⟨b, off, cs, h1, h2, fun q v hv => by rw [hb.cell (by show b < w.heap.size; omega)]; exact h3 q v hv, IsV.below hb hB t cs h4⟩) (IsVs.mk fun j t ht => by
     obtain ⟨b, off, cs, h1, h2, h3, h4⟩ := hL'.get j t ht
     exact ⟨b, off, cs, h1, h2, fun q v hv => by rw [hb.cell (by show b < w.heap.size; omega)]; exact h3 q v hv, IsV.below hb hB t cs h4⟩) (Nat.le_trans hB hb.size) (by omega) (by omega))
 clear ih hK hL hla hka hK' hL' hla' hka' hk64 hi64 hk64' hi64'
 obtain ⟨nm, hnm⟩ := nam (decide (ks = ks'))
 obtain ⟨ls, hls⟩ := nam (sameVs l l')
 rw [hnm] at HN
 rw [hls] at HLS
 have HR := Lib.hid (show sameV (.mk k b i s l ks) (.mk k' b' i' s' l' ks') = (decide (k = k') && decide (b = b') && decide (i = i') && decide (s = s') && nm && ls) from by rw [← hnm, ← hls]; unfold sameV; rfl)
 clear hnm hls
 show Calls Tryz.prog 105 #[.agg #[.int .i64 k, .bool b, .int .i64 i, .string s, .slice la l.length lc, .slice ka ks.length kc], .agg #[.int .i64 k', .bool b', .int .i64 i', .string s', .slice la' l'.length lc', .slice ka' ks'.length kc']] w _
 rw [HR.out]
 have HB0 := Lib.hid (((Below.refl w.heap.size w).alloc (Nat.le_refl _) (.cells #[.int .i64 k, .bool b, .int .i64 i, .string s, .slice la l.length lc, .slice ka ks.length kc] 64)).alloc (by simp) (.cells #[.int .i64 k', .bool b', .int .i64 i', .string s', .slice la' l'.length lc', .slice ka' ks'.length kc'] 64))
 by_cases e1 : k = k'
 rotate_left
 ·have d1 : (k == k') = false := by simp; exact e1
  have D1 := Lib.hid (decide_eq_false e1)
  clear e1
  rw [D1.out]
  go_enter Tryz.func105, Tryz.ntmps105
  go_wp2_with fail
  go_ret
  exact ⟨by simp, HB0.out⟩
 subst e1
 have d1 : (k == k) = true := by simp
 cases b <;> cases b'
 ·have z563961a := trivial
  exact Sq563961
 ·go_enter Tryz.func105, Tryz.ntmps105
  go_wp2_with fail
  go_ret
  exact ⟨by simp, HB0.out⟩
 ·go_enter Tryz.func105, Tryz.ntmps105
  go_wp2_with fail
  go_ret
  exact ⟨by simp, HB0.out⟩
 ·exact Sq563961
end Go.Proofs.YteljlahcdipilaaGreat
namespace Go.Proofs.YteljlahcdipilaaGreat
set_option linter.unusedVariables false
section
variable {P : Program} {ops : Array Oper} {Q : Exit → Act → World → Prop} {md : Region.Mode} {S : World → Prop} {tl : Nat → Bool}
def wpAnyJ (P : Program) (md : Region.Mode) (ops : Array Oper) (Q : Exit → Act → World → Prop) (S : World → Prop) (tl : Nat → Bool) : Nat → Array Bool → Act → World → Prop
  | 0, listed, a, w => Region.ready md ops listed = [] ∧ Q .normal a w
  | fuel + 1, listed, a, w =>
    (Region.ready md ops listed = [] → Q .normal a w) ∧
    ∀ i ∈ Region.ready md ops listed, wpOp P ops Q i (fun a' w' => (tl i = false → S w → S w') ∧ wpAnyJ P md ops Q S tl fuel (listed.setIfInBounds i true) a' w') a w
def tailWaits (md : Region.Mode) (ops : Array Oper) (tl : Nat → Bool) (i : Nat) : Bool :=
  (List.range ops.size).all fun j => !tl j || match ops[j]? with
    | some o => o.after.any fun e => Region.binds md e && e.on == i
    | none => true
theorem tailWaits_spec {i : Nat} (h : tailWaits md ops tl i = true) (j : Nat) (oj : Oper) (hj : ops[j]? = some oj) (ht : tl j = true) : ∃ e ∈ oj.after, Region.binds md e = true ∧ e.on = i := by
 unfold tailWaits at h
 rw [List.all_eq_true] at h
 have h1 := h j (List.mem_range.2 (Array.getElem?_eq_some_iff.1 hj).1)
 simp only [ht, Bool.not_true, Bool.false_or, hj] at h1
 obtain ⟨e, he, hb⟩ := Array.any_eq_true'.1 h1
 simp only [Bool.and_eq_true, beq_iff_eq] at hb
 exact ⟨e, he, hb.1, hb.2⟩
theorem Sq527450 {P : Prop} (h : P := by
 intro fuel
 induction fuel with
 | zero =>
  first
  | (guard_hyp z527450a; intro listed a w _ hr hy hS H)
  | (intro listed a w _ hr hy H)
  refine ⟨fun h => (by rw [h] at hr; cases hr), fun j hj => ?_⟩
  by_cases hji : j = i
  first
  |(
   guard_hyp z527450b
   ·subst hji; exact hy.wpOp hi trivial ⟨fun _ h => h, H⟩)
  |(
   ·subst hji; exact hy.wpOp hi hS ⟨fun _ h => h, H⟩)
  ·have := ready_mono hj hji
   rw [H.1] at this
   cases this
 | succ fuel ih =>
  first
  | (guard_hyp z527450a; intro listed a w hfree hr hy hS H)
  | (intro listed a w hfree hr hy H)
  refine ⟨fun h => (by rw [h] at hr; cases hr), fun j hj => ?_⟩
  by_cases hji : j = i
  first
  |(
   guard_hyp z527450b
   ·subst hji; exact hy.wpOp hi trivial ⟨fun _ h => h, H⟩)
  |(
   ·subst hji; exact hy.wpOp hi hS ⟨fun _ h => h, H⟩)
  ·have h1 := H.2 j (ready_mono hj hji)
   obtain ⟨hjun, oj, hoj, hall⟩ := mem_ready.1 hj
   have hnot : ∀ e ∈ oj.after, Region.binds md e = true → e.on ≠ i := fun e he hb heq => by
    have h1 := hall e he hb
    have h0 := (mem_ready.1 hr).1
    rw [heq] at h1
    rcases Nat.lt_or_ge i listed.size with h' | h'
    ·simp [h'] at h0 h1; rw [h0] at h1; cases h1
    ·simp [Array.getElem?_eq_none h'] at h1
   first
   |(
    guard_hyp z527450a
    have htj : tl j = false := by
     cases ht : tl j with
     | false => rfl
     | true =>
      obtain ⟨e, he, hb, heq⟩ := htl j oj hoj ht
      exact absurd heq (hnot e he hb))
   | skip
   have h2 := wpOp_putIf hoj (hfree j oj hoj hji hjun hnot) (fun cs b => hsel i oi cs b hi) (fun cs b => hsel j oj cs b hoj) hQ hy h1
   have hfree' : ∀ k ok, ops[k]? = some ok → k ≠ i → (listed.setIfInBounds j true).getD k true = false →
       (∀ e ∈ ok.after, Region.binds md e = true → e.on ≠ i) → oi.apart ops ok = true := fun k ok hk hki hun hno => by
     refine hfree k ok hk hki ?_ hno
     by_cases hjk : j = k
     · subst hjk; exact hjun
     · rw [getD_set_ne true hjk] at hun; exact hun
   first
   | (guard_hyp z527450a; refine wpOp_mono (fun a' w' h3 => ⟨fun _ _ => h3.2.1 htj hS, ih (listed.setIfInBounds j true) a' w' hfree' (ready_mono hr (Ne.symm hji)) h3.1 (h3.2.1 htj hS) ?_⟩) h2)
   | (refine wpOp_mono (fun a' w' h3 => ⟨h3.2.1, ih (listed.setIfInBounds j true) a' w' hfree' (ready_mono hr (Ne.symm hji)) h3.1 ?_⟩) h2)
   rw [Array.setIfInBounds_comm _ _ hji]
   exact h3.2.2) : P := h
theorem wpAnyJ_first {i : Nat} {oi : Oper} {v : Value} (hi : ops[i]? = some oi) (hsel : ∀ (j : Nat) (o : Oper) cs b, ops[j]? = some o → o.op ≠ .select cs b)
    (htl : ∀ j oj, ops[j]? = some oj → tl j = true → ∃ e ∈ oj.after, Region.binds md e = true ∧ e.on = i)
    (hQ : ∀ c a w, Q (.panic c) (a.put oi.dst v) w → Q (.panic c) a w) :
    ∀ (fuel : Nat) (listed : Array Bool) (a : Act) (w : World),
      (∀ j oj, ops[j]? = some oj → j ≠ i → listed.getD j true = false → (∀ e ∈ oj.after, Region.binds md e = true → e.on ≠ i) → oi.apart ops oj = true) →
      i ∈ Region.ready md ops listed → YieldsIf P ops S oi v a → S w →
      wpAnyJ P md ops Q S tl fuel (listed.setIfInBounds i true) (a.put oi.dst v) w → wpAnyJ P md ops Q S tl (fuel + 1) listed a w := by
 have z527450a := trivial
 exact Sq527450
theorem wpAnyJ_take {i : Nat} {oi : Oper} {v : Value} {fuel : Nat} {listed : Array Bool} {a : Act} {w : World} (hi : ops[i]? = some oi)
    (hs : Region.noSelect ops = true) (hf : Region.free md ops listed i = true) (hr : (Region.ready md ops listed).contains i = true) (ht : tailWaits md ops tl i = true)
    (hQ : ∀ c a w, Q (.panic c) (a.put oi.dst v) w → Q (.panic c) a w) (hy : YieldsIf P ops S oi v a) (hS : S w)
    (h : wpAnyJ P md ops Q S tl fuel (listed.setIfInBounds i true) (a.put oi.dst v) w) : wpAnyJ P md ops Q S tl (fuel + 1) listed a w :=
  wpAnyJ_first hi (Region.noSelect_spec hs) (tailWaits_spec ht) hQ fuel listed a w (Region.free_spec hi hf) (by simpa using hr) hy hS h
theorem wpAnyJ_pure {i : Nat} {oi : Oper} {v : Value} (hi : ops[i]? = some oi) (hsel : ∀ (j : Nat) (o : Oper) cs b, ops[j]? = some o → o.op ≠ .select cs b)
    (hQ : ∀ c a w, Q (.panic c) (a.put oi.dst v) w → Q (.panic c) a w) :
    ∀ (fuel : Nat) (listed : Array Bool) (a : Act) (w : World),
      (∀ j oj, ops[j]? = some oj → j ≠ i → listed.getD j true = false → (∀ e ∈ oj.after, Region.binds md e = true → e.on ≠ i) → oi.apart ops oj = true) →
      i ∈ Region.ready md ops listed → YieldsIf P ops (fun _ => True) oi v a →
      wpAnyJ P md ops Q S tl fuel (listed.setIfInBounds i true) (a.put oi.dst v) w → wpAnyJ P md ops Q S tl (fuel + 1) listed a w := by
 have z527450b := trivial
 exact Sq527450
theorem wpAnyJ_take0 {i : Nat} {oi : Oper} {v : Value} {fuel : Nat} {listed : Array Bool} {a : Act} {w : World} (hi : ops[i]? = some oi)
    (hs : Region.noSelect ops = true) (hf : Region.free md ops listed i = true) (hr : (Region.ready md ops listed).contains i = true)
    (hQ : ∀ c a w, Q (.panic c) (a.put oi.dst v) w → Q (.panic c) a w) (hy : YieldsIf P ops (fun _ => True) oi v a)
    (h : wpAnyJ P md ops Q S tl fuel (listed.setIfInBounds i true) (a.put oi.dst v) w) : wpAnyJ P md ops Q S tl (fuel + 1) listed a w :=
  wpAnyJ_pure hi (Region.noSelect_spec hs) hQ fuel listed a w (Region.free_spec hi hf) (by simpa using hr) hy h
theorem wp_region_J {id : Nat} {a : Act} {w : World} (tl : Nat → Bool) (hm : P.follows .mixedOrders = true)
    (h : wpAnyJ P .any ops Q S tl ops.size (Array.replicate ops.size false) a w.drew) : (Code.region id ops true).wp P Q a w := by
 have h1 : wpAnyH P .any ops Q (fun _ => True) ops.size (Array.replicate ops.size false) a w.drew := by
  have h2 : ∀ (fuel : Nat) (listed : Array Bool) (a : Act) (w : World), wpAnyJ P .any ops Q S tl fuel listed a w → wpAnyH P .any ops Q (fun _ => True) fuel listed a w := by
   intro fuel
   induction fuel with
   | zero => intro listed a w h; exact h
   | succ fuel ih => intro listed a w h; exact ⟨h.1, fun i hi => wpOp_mono (fun a' w' h' => ⟨trivial, ih _ a' w' h'.2⟩) (h.2 i hi)⟩
  exact h2 _ _ _ _ h
 exact wp_region_held hm h1
def AllReadyJ (P : Program) (md : Region.Mode) (ops : Array Oper) (Q : Exit → Act → World → Prop) (S : World → Prop) (tl : Nat → Bool) (fuel : Nat) (listed : Array Bool) (a : Act) (w : World) (rs : List Nat) : Prop :=
  ∀ i ∈ rs, wpOp P ops Q i (fun a' w' => (tl i = false → S w → S w') ∧ wpAnyJ P md ops Q S tl fuel (listed.setIfInBounds i true) a' w') a w
theorem AllReadyJ.nil {fuel : Nat} {listed : Array Bool} {a : Act} {w : World} : AllReadyJ P md ops Q S tl fuel listed a w [] := fun _ h => by cases h
theorem AllReadyJ.cons {fuel : Nat} {listed : Array Bool} {a : Act} {w : World} {i : Nat} {o : Oper} {rs : List Nat} (ho : ops[i]? = some o)
    (h : ∀ K' : Act → World → Prop, Shut (∀ a' w', (tl i = false → S w → S w') → wpAnyJ P md ops Q S tl fuel (listed.setIfInBounds i true) a' w' → K' a' w') → if Region.wanted o (yielded ops a.tmps) = true then o.wp P a w K' Q else K' (a.put o.dst undef) w)
    (hs : AllReadyJ P md ops Q S tl fuel listed a w rs) : AllReadyJ P md ops Q S tl fuel listed a w (i :: rs) := fun j hj => by
  rcases List.mem_cons.1 hj with rfl | hj
  · exact wpOp_step ho (fun K' hK => h K' (fun a w hS hW => hK a w ⟨hS, hW⟩))
  · exact hs j hj
theorem wpAnyJ_ready {rs : List Nat} {fuel : Nat} {listed : Array Bool} {a : Act} {w : World} (hr : Region.ready md ops listed = rs) (hne : rs ≠ [])
    (h : AllReadyJ P md ops Q S tl fuel listed a w rs) : wpAnyJ P md ops Q S tl (fuel + 1) listed a w :=
  ⟨fun h0 => absurd (hr ▸ h0) hne, hr ▸ h⟩
theorem wpAnyJ_done {listed : Array Bool} {a : Act} {w : World} (hr : Region.ready md ops listed = []) (h : Q .normal a w) :
    ∀ fuel, wpAnyJ P md ops Q S tl fuel listed a w
  | 0 => ⟨hr, h⟩
  | fuel + 1 => ⟨fun _ => h, fun i hi => by rw [hr] at hi; cases hi⟩
theorem Jt (i : Nat) {oi : Oper} {v : Value} {fuel : Nat} {listed listed' : Array Bool} {a a' : Act} {w : World} (h : wpAnyJ P md ops Q S tl fuel listed' a' w) (hi : ops[i]? = some oi := by rfl)
    (hs : Region.noSelect ops = true := by kernel_rfl) (hf : Region.free md ops listed i = true := by kernel_rfl) (hr : (Region.ready md ops listed).contains i = true := by kernel_rfl)
    (hy : YieldsIf P ops (fun _ => True) oi v a := by refine Or.inl ⟨by rfl, ?_⟩; ((intro w hSw; clear hSw; go_simp); try with_reducible rfl))
    (hQ : ∀ c a w, Q (.panic c) (a.put oi.dst v) w → Q (.panic c) a w := by exact fun _ _ _ h => h)
    (hl : listed.setIfInBounds i true = listed' := by (try simp only [List.setIfInBounds_toArray, List.set_cons_zero, List.set_cons_succ]); rfl)
    (ha : a.put oi.dst v = a' := by (try simp only [Act.put, List.getElem_toArray, List.getElem_cons_zero, List.getElem_cons_succ, List.setIfInBounds_toArray, List.set_cons_zero, List.set_cons_succ]); rfl) : wpAnyJ P md ops Q S tl (fuel + 1) listed a w := by
 subst hl ha; exact wpAnyJ_take0 hi hs hf hr hQ hy h
theorem Jl (i : Nat) {oi : Oper} {v : Value} {fuel : Nat} {listed listed' : Array Bool} {a a' : Act} {w : World} (h : wpAnyJ P md ops Q S tl fuel listed' a' w) (hi : ops[i]? = some oi := by rfl)
    (hs : Region.noSelect ops = true := by kernel_rfl) (hf : Region.free md ops listed i = true := by kernel_rfl) (hr : (Region.ready md ops listed).contains i = true := by kernel_rfl) (ht : tailWaits md ops tl i = true := by kernel_rfl)
    (hy : YieldsIf P ops S oi v a := by refine Or.inl ⟨by rfl, ?_⟩; ((intro w hSw; (try dsimp only at hSw); go_simp); try with_reducible rfl)) (hS : S w := by assumption)
    (hQ : ∀ c a w, Q (.panic c) (a.put oi.dst v) w → Q (.panic c) a w := by exact fun _ _ _ h => h)
    (hl : listed.setIfInBounds i true = listed' := by (try simp only [List.setIfInBounds_toArray, List.set_cons_zero, List.set_cons_succ]); rfl)
    (ha : a.put oi.dst v = a' := by (try simp only [Act.put, List.getElem_toArray, List.getElem_cons_zero, List.getElem_cons_succ, List.setIfInBounds_toArray, List.set_cons_zero, List.set_cons_succ]); rfl) : wpAnyJ P md ops Q S tl (fuel + 1) listed a w := by
 subst hl ha; exact wpAnyJ_take hi hs hf hr ht hQ hy hS h
theorem Js (i : Nat) {oi : Oper} {fuel : Nat} {listed listed' : Array Bool} {a a' : Act} {w : World} (h : wpAnyJ P md ops Q S tl fuel listed' a' w) (hi : ops[i]? = some oi := by rfl)
    (hs : Region.noSelect ops = true := by kernel_rfl) (hf : Region.free md ops listed i = true := by kernel_rfl) (hr : (Region.ready md ops listed).contains i = true := by kernel_rfl)
    (hy : YieldsIf P ops (fun _ => True) oi undef a := by exact Or.inr ⟨by rfl, rfl⟩)
    (hQ : ∀ c a w, Q (.panic c) (a.put oi.dst undef) w → Q (.panic c) a w := by exact fun _ _ _ h => h)
    (hl : listed.setIfInBounds i true = listed' := by (try simp only [List.setIfInBounds_toArray, List.set_cons_zero, List.set_cons_succ]); rfl)
    (ha : a.put oi.dst undef = a' := by (try simp only [Act.put, List.getElem_toArray, List.getElem_cons_zero, List.getElem_cons_succ, List.setIfInBounds_toArray, List.set_cons_zero, List.set_cons_succ]); rfl) : wpAnyJ P md ops Q S tl (fuel + 1) listed a w := by
 subst hl ha; exact wpAnyJ_take0 hi hs hf hr hQ hy h
theorem Jr (i : Nat) {o : Oper} {fuel : Nat} {listed : Array Bool} {a : Act} {w : World}
    (h : ∀ K' : Act → World → Prop, Shut (∀ a' w', (tl i = false → S w → S w') → wpAnyJ P md ops Q S tl fuel (listed.setIfInBounds i true) a' w' → K' a' w') → if Region.wanted o (yielded ops a.tmps) = true then o.wp P a w K' Q else K' (a.put o.dst undef) w)
    (hr : Region.ready md ops listed = [i] := by kernel_rfl) (ho : ops[i]? = some o := by rfl) : wpAnyJ P md ops Q S tl (fuel + 1) listed a w :=
  wpAnyJ_ready hr (by simp) (AllReadyJ.cons ho h AllReadyJ.nil)
theorem Jn {fuel : Nat} {listed listed' : Array Bool} {a a' : Act} {w : World} (h : wpAnyJ P md ops Q S tl fuel listed' a' w)
    (hl : listed = listed' := by (try simp only [List.setIfInBounds_toArray, List.set_cons_zero, List.set_cons_succ]); rfl)
    (ha : a = a' := by (try simp only [Act.put, List.getElem_toArray, List.getElem_cons_zero, List.getElem_cons_succ, List.setIfInBounds_toArray, List.set_cons_zero, List.set_cons_succ]); rfl) : wpAnyJ P md ops Q S tl fuel listed a w := by
 subst hl ha; exact h
end
end Go.Proofs.YteljlahcdipilaaGreat
namespace Go.Proofs.YteljlahcdipilaaGreat
open Go.RowKit Go.ChangeMaps Go.Maps
structure KeyKind (P : Program) (k : TypeId) (α : Type) where
  val : α → Value
  lit : α → Lit
  ok : α → Prop
  law : Keyed P k
  key : ∀ x, ok x → keyOf P k (val x) = some (lit x)
  inj : ∀ x y, lit x = lit y → x = y
  inv : ∀ v kl, keyOf P k v = some kl → ∃ x, ok x ∧ v = val x ∧ kl = lit x
def rawElem (v : Value) : Option (DataW Value × List MemPlace) := some (.held v, [])
def Agrees {P : Program} {k : TypeId} {α : Type} (K : KeyKind P k α) (D : DataW Value) (g : α → Option Value) : Prop :=
  ∀ x, K.ok x → Maps.has D (K.lit x) = (g x).isSome ∧ ∀ v, g x = some v → ∀ z, D.atKey (K.lit x) z = .held v
def MapIs (w : World) {P : Program} {k : TypeId} {α : Type} (K : KeyKind P k α) (b n : Nat) (g : α → Option Value) : Prop :=
  ∃ D : DataW Value, w.ownsMap P k rawElem b n D ∧ Agrees K D g
section
variable {P : Program} {k : TypeId} {α : Type} {K : KeyKind P k α} {w : World} {b n : Nat} {g : α → Option Value}
theorem MapIs.lt (h : MapIs w K b n g) : b < w.heap.size := by obtain ⟨D, h1, _⟩ := h; exact h1.lt
theorem MapIs.of_heap {w' : World} (h : MapIs w K b n g) (hh : w'.heap[b]? = w.heap[b]?) : MapIs w' K b n g := by
 obtain ⟨D, ⟨es, clock, hb, r⟩, h2⟩ := h
 exact ⟨D, ⟨es, clock, hh.trans hb, r⟩, h2⟩
theorem MapIs.mono {n' : Nat} (h : MapIs w K b n g) (hn : n ≤ n') : MapIs w K b n' g := by obtain ⟨D, h1, h2⟩ := h; exact ⟨D, h1.mono hn, h2⟩
theorem MapIs.congr {g' : α → Option Value} (h : MapIs w K b n g) (hg : ∀ x, K.ok x → g' x = g x) : MapIs w K b n g' := by
 obtain ⟨D, h1, h2⟩ := h
 exact ⟨D, h1, fun x hx => by rw [hg x hx]; exact h2 x hx⟩
theorem MapIs.made (w : World) (K : KeyKind P k α) : MapIs (w.alloc (.map #[] 0)) K w.heap.size 0 (fun _ => none) :=
  ⟨.map [], World.ownsMap_made w P k rawElem, fun x _ => ⟨rfl, fun v h => by cases h⟩⟩
theorem MapIs.lookup {t e : TypeId} (h : MapIs w K b n g) (ht : P.underlying t = some (.map k e)) {z : Value} (hz : (zeroValue e).run P w = .ok z w) {x : α} (hx : K.ok x) :
    (Instr.lookup t (.map (some b)) (K.val x) false).run P w = .ok ((g x).getD z) w := by
 obtain ⟨D, h1, h2⟩ := h
 obtain ⟨v, ps, hrun, hv⟩ := h1.lookup K.law ht hz (zd := .held z) (zp := []) rfl (K.key x hx)
 obtain ⟨h3, h4⟩ := h2 x hx
 simp only [rawElem, Option.some.injEq, Prod.mk.injEq] at hv
 rw [hrun]
 cases hg : g x with
 | none =>
  rw [hg] at h3
  rw [Maps.atKey_of_not_has h3] at hv
  injection hv.1 with hv1; rw [hv1]; rfl
 | some u =>
  rw [h4 u hg] at hv
  injection hv.1 with hv1; rw [hv1]; rfl
theorem Agrees.put {D : DataW Value} (hD : IsMap D) (h : Agrees K D g) [DecidableEq α] {x : α} (hx : K.ok x) (v : Value) : Agrees K (D.put (K.lit x) (.held v)) (fun y => if y = x then some v else g y) := by
 have hkl : WideAt.IsKeyLit (K.lit x) := K.law.key (K.key x hx)
 intro y hy
 by_cases e : y = x
 ·subst e
  refine ⟨by rw [has_put_same hD hkl]; simp, fun u hu z => ?_⟩
  simp at hu; subst hu
  exact atKey_put_same hD hkl _ z
 ·have hne : K.lit y ≠ K.lit x := fun h => e (K.inj _ _ h)
  simp only [e, if_false]
  obtain ⟨h1, h2⟩ := h y hy
  exact ⟨by rw [has_put_other hne]; exact h1, fun u hu z => by rw [atKey_put_other hne]; exact h2 u hu z⟩
theorem MapIs.update [DecidableEq α] {t e : TypeId} (h : MapIs w K b n g) (ht : P.underlying t = some (.map k e)) (hn : n < maxLen) {x : α} (hx : K.ok x) (v : Value) :
    ∃ w', (Instr.mapUpdate t (.map (some b)) (K.val x) v).run P w = .ok () w' ∧ MapIs w' K b (n + 1) (fun y => if y = x then some v else g y) ∧ w.grownBy w' (some b) ∧ w'.heap.size = w.heap.size := by
 obtain ⟨D, h1, h2⟩ := h
 obtain ⟨w', hrun, h3, h4⟩ := h1.store K.law ht hn (K.key x hx) (val := v) (d := .held v) (ps := []) rfl
 refine ⟨w', hrun, ⟨_, h3, h2.put h1.isMap hx v⟩, h4.grown, ?_⟩
 obtain ⟨_, _, _, _, _, rfl⟩ := h4
 simp [setBlock]
def MapGoes (w : World) {P : Program} {k : TypeId} {α : Type} (K : KeyKind P k α) (b r n : Nat) (g : α → Option Value) (left : α → Bool) (cnt : Nat) : Prop :=
  ∃ (D : DataW Value) (l : Lit → Bool), w.ranges P k rawElem b r n D l cnt ∧ Agrees K D g ∧ ∀ x, K.ok x → l (K.lit x) = left x
theorem MapGoes.is {r : Nat} {left : α → Bool} {cnt : Nat} (h : MapGoes w K b r n g left cnt) : MapIs w K b n g := by
 obtain ⟨D, l, h1, h2, _⟩ := h; exact ⟨D, h1.owns, h2⟩
theorem MapGoes.lt {r : Nat} {left : α → Bool} {cnt : Nat} (h : MapGoes w K b r n g left cnt) : r < w.heap.size := by
 obtain ⟨D, l, h1, h2, _⟩ := h; exact h1.lt
theorem MapGoes.kept {r : Nat} {left : α → Bool} {cnt : Nat} {w' : World} {row : Option Nat} (h : MapGoes w K b r n g left cnt) (hg : w.grownBy w' row) (hb : some b ≠ row) (hr : some r ≠ row) : MapGoes w' K b r n g left cnt := by
 obtain ⟨D, l, h1, h2, h3⟩ := h; exact ⟨D, l, h1.kept hg hb hr, h2, h3⟩
end
section
variable {P : Program} (w : World) {ops : Array Oper} {rest : List Oper} {o : Oper} {a : Act} {Q : Exit → Act → World → Prop} {α : Type}
end
end Go.Proofs.YteljlahcdipilaaGreat
namespace Go.Proofs.YteljlahcdipilaaGreat
open Go.ChangeShapes
variable {H : Type} {enc : TypeId × Value → H}
theorem ml_shaped (w : World) (h : w.ShapedOpen Tryz.prog) : ∃ m, w.cell? ⟨0, 0, none⟩ = some (.int .i64 m) :=
  Go.Proofs.cell_of_shapedOpen_int (zero := #[.int .i64 0]) (t := 3) h (of_decide_eq_true (by kernel_rfl)) (by kernel_rfl) rfl (by kernel_rfl) (by kernel_rfl) Tryz.underlying3
end Go.Proofs.YteljlahcdipilaaGreat

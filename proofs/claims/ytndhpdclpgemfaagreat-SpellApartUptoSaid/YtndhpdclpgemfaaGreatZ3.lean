/- Parts Same of this seat (pruned, scripts that are alike kept once as default arguments: q1, q2, ..). Conditions: each says its own. -/
import Derived.Test.YtndhpdclpgemfaaGreatZ2
namespace Go.Proofs.YtndhpdclpgemfaaGreat
open Go.RowKit
set_option linter.unusedSimpArgs false
set_option linter.unusedVariables false
mutual
def sameV : Vt → Vt → Bool
  | .mk k b i s l ks, .mk k' b' i' s' l' ks' => decide (k = k') && decide (b = b') && decide (i = i') && decide (s = s') && decide (ks = ks') && sameVs l l'
def sameVs : List Vt → List Vt → Bool
  | [], [] => true
  | t :: ts, u :: us => sameV t u && sameVs ts us
  | [], _ :: _ => false
  | _ :: _, [] => false
end
theorem sameVs_len {l m : List Vt} (h : l.length ≠ m.length) : sameVs l m = false := by
 induction l generalizing m with
 | nil => cases m with
  | nil => exact absurd rfl h
  | cons u us => rfl
 | cons t ts ih => cases m with
  | nil => rfl
  | cons u us => simp only [sameVs, ih (m := us) (fun e => h (by simp [e])), Bool.and_false]
theorem sameVs_at {l m : List Vt} : ∀ {j : Nat} {t u : Vt}, l[j]? = some t → m[j]? = some u → sameVs (l.drop j) (m.drop j) = (sameV t u && sameVs (l.drop (j + 1)) (m.drop (j + 1))) := by
 intro j t u h k
 obtain ⟨h1, h2⟩ := List.getElem?_eq_some_iff.1 h
 obtain ⟨k1, k2⟩ := List.getElem?_eq_some_iff.1 k
 rw [List.drop_eq_getElem_cons h1, List.drop_eq_getElem_cons k1, h2, k2]
 simp only [sameVs]
theorem ba_beq (x y : ByteArray) : (x.toList == y.toList) = decide (x = y) := by
 rw [ba_list, ba_list, Bool.eq_iff_iff, beq_iff_eq, decide_eq_true_eq]
 constructor
 ·intro h; apply ByteArray.ext; exact Array.ext' h
 ·rintro rfl; rfl
theorem StrRow.get {B : Nat} {w : World} {a : Option Addr} {ks : List ByteArray} (h : StrRow B w a ks) {j : Nat} {x : ByteArray} (hx : ks[j]? = some x) : ∃ b off, a = some ⟨b, off, none⟩ ∧ b < B ∧ w.cell? ⟨b, off + j, none⟩ = some (.string x) := by
 rcases h with h0 | ⟨b, off, h1, h2, h3⟩
 ·rw [List.map_eq_nil_iff] at h0; rw [h0] at hx; simp at hx
 ·exact ⟨b, off, h1, h2, h3 j _ (by rw [List.getElem?_map, hx]; rfl)⟩
theorem Se380560 {P : Prop} (h : P := by
 have HK := Lib.hid hk
 have HM := Lib.hid hm
 clear hk hm
 obtain ⟨R, hR⟩ := nam (decide (ks = ms))
 have HR := Lib.hid hR
 rw [hR]
 clear hR
 by_cases hn : ks.length = ms.length
 rotate_left
 ·have hnb : ((ks.length : Int) != (ms.length : Int)) = true := by simp; omega
  have HN : Hid (R = false) := Lib.hid (by rw [← HR.out]; exact decide_eq_false (fun e => hn (by rw [e])))
  first
  | (guard_hyp z380560a; go_enter Tryz.func123, Tryz.ntmps123)
  | (go_enter Tryz.func105, Tryz.ntmps105)
  go_wp2_with fail
  go_ret
  exact ⟨by rw [HN.out]; rfl, Below.refl _ _⟩
 have hnb : ((ks.length : Int) != (ms.length : Int)) = false := by simp; omega
 have HNL := Lib.hid hn
 clear hn
 first
 | (guard_hyp z380560a; go_enter Tryz.func123, Tryz.ntmps123)
 | (go_enter Tryz.func105, Tryz.ntmps105)
 go_wp2_with fail
 first
 | (guard_hyp z380560a; go_loopw [13] (fun iv wr => ∃ j : Nat, iv = .int .i64 j ∧ j ≤ ks.length ∧ Below w.heap.size w wr ∧ Hid (ks.take j = ms.take j)) (fun iv _ => ks.length - (intOf iv).toNat))
 | (go_loopw [5] (fun iv wr => ∃ j : Nat, iv = .int .i64 j ∧ j ≤ ks.length ∧ Below w.heap.size w wr ∧ Hid (ks.take j = ms.take j)) (fun iv _ => ks.length - (intOf iv).toNat))
 case atStart => exact ⟨0, rfl, Nat.zero_le _, Below.refl _ _, Lib.hid rfl⟩
 case round =>
  obtain ⟨j, rfl, hj, hbr, ht⟩ := hrel
  have HBR := Lib.hid hbr
  clear hbr
  by_cases hlt : j < ks.length
  ·have hlt' : (j : Int) < ks.length := by omega
   have hlm : j < ms.length := by have := HNL.out; omega
   have hlm' : (j : Int) < ms.length := by omega
   have p0 : (0 : Int) ≤ (j : Int) := by omega
   obtain ⟨x, hx⟩ := get_some hlt
   obtain ⟨y, hy⟩ := get_some hlm
   obtain ⟨kb, ko, rfl, _, g1⟩ := StrRow.get (HK.out.below HBR.out hB) hx
   obtain ⟨mb, mo, rfl, _, g2⟩ := StrRow.get (HM.out.below HBR.out hB) hy
   have HX := Lib.hid hx
   have HY := Lib.hid hy
   clear hx hy
   have hbe := ba_beq x y
   by_cases he : x = y
   ·have hbt : (x.toList == y.toList) = true := by rw [hbe]; exact decide_eq_true he
    have HU : Hid (ks.take (j + 1) = ms.take (j + 1)) := Lib.hid (by rw [take_succ_some HX.out, take_succ_some HY.out, ht.out, he])
    clear hbe he
    go_wp2_with fail
    go_quiet (fail)
    go_wp2_with fail
    go_roundw
    case rel => exact ⟨j + 1, by go_num, by omega, below_draws HBR.out _, HU⟩
    case measure => simp [intOf]; omega
   ·have hbt : (x.toList == y.toList) = false := by rw [hbe]; exact decide_eq_false he
    have HN : Hid (R = false) := Lib.hid (by rw [← HR.out]; exact decide_eq_false (fun e => he (by have h1 := HX.out; rw [e, HY.out] at h1; exact (Option.some.inj h1).symm)))
    clear hbe he
    go_wp2_with fail
    go_quiet (fail)
    go_wp2_with fail
    go_ret
    exact ⟨by rw [HN.out]; rfl, below_draws HBR.out _⟩
  ·have hlt' : ¬ (j : Int) < ks.length := by omega
   have HN : Hid (R = true) := Lib.hid (by
    rw [← HR.out]
    have h1 := ht.out
    rw [List.take_of_length_le (by omega), List.take_of_length_le (by have := HNL.out; omega)] at h1
    exact decide_eq_true h1)
   go_wp2_with fail
   go_ret
   exact ⟨by rw [HN.out]; rfl, HBR.out⟩) : P := h
set_option maxRecDepth 1000000 in
set_option maxHeartbeats 2000000 in
theorem sameNames_any (ks ms : List ByteArray) (ka ma : Option Addr) (kc mc : Nat) (B : Nat) (w : World) (hk : StrRow B w ka ks) (hm : StrRow B w ma ms) (hB : B ≤ w.heap.size) (hkl : ks.length ≤ 9223372036854775807) (hml : ms.length ≤ 9223372036854775807) :
    Calls Tryz.prog 105 #[.slice ka ks.length kc, .slice ma ms.length mc] w fun e w' => e = .returned (.bool (decide (ks = ms))) ∧ Below w.heap.size w w' := Se380560
def SameSaid (a : Vt) : Prop := ∀ (b : Vt) (cs ds : List Value) (B : Nat) (w : World), IsV B w cs a → IsV B w ds b → B ≤ w.heap.size →
    Calls Tryz.prog 54 #[.agg cs.toArray, .agg ds.toArray] w fun e w' => e = .returned (.bool (sameV a b)) ∧ Below w.heap.size w w'
theorem Se811279 {P : Prop} (h : P := by
 have hnb : ((l.length : Int) != (m.length : Int)) = true := by simp; omega
 have HN : Hid (R = false) := Lib.hid (by rw [← HR.out]; exact sameVs_len hn)
 first
 | (guard_hyp z811279a; go_enter Tryz.func106, Tryz.ntmps106)
 | (go_enter Tryz.func124, Tryz.ntmps124)
 go_wp2_with fail
 go_ret
 exact ⟨by rw [HN.out]; rfl, Below.refl _ _⟩) : P := h
set_option maxRecDepth 1000000 in
set_option maxHeartbeats 4000000 in
theorem sameList_any (l m : List Vt) (ih : ∀ (j : Nat) t, l[j]? = some t → SameSaid t) (la ma : Option Addr) (lc mc : Nat) (B : Nat) (w : World) (hl : IsVs B w la 0 l) (hm : IsVs B w ma 0 m) (hB : B ≤ w.heap.size) (hll : l.length ≤ 9223372036854775807) (hml : m.length ≤ 9223372036854775807) :
    Calls Tryz.prog 106 #[.slice la l.length lc, .slice ma m.length mc] w fun e w' => e = .returned (.bool (sameVs l m)) ∧ Below w.heap.size w w' := by
 have HL := Lib.hid hl
 have HM := Lib.hid hm
 have IH := Lib.hid ih
 clear hl hm ih
 obtain ⟨R, hR⟩ := nam (sameVs l m)
 have HR := Lib.hid hR
 rw [hR]
 clear hR
 by_cases hn : l.length = m.length
 rotate_left
 ·have z811279a := trivial
  exact Se811279
 have hnb : ((l.length : Int) != (m.length : Int)) = false := by simp; omega
 have HNL := Lib.hid hn
 clear hn
 go_enter Tryz.func106, Tryz.ntmps106
 go_wp2_with fail
 go_loopw [5] (fun iv wr => ∃ j : Nat, iv = .int .i64 j ∧ j ≤ l.length ∧ Below w.heap.size w wr ∧ Hid (R = sameVs (l.drop j) (m.drop j))) (fun iv _ => l.length - (intOf iv).toNat)
 case atStart => exact ⟨0, rfl, Nat.zero_le _, Below.refl _ _, Lib.hid HR.out.symm⟩
 case round =>
  obtain ⟨j, rfl, hj, hbr, ht⟩ := hrel
  have HBR := Lib.hid hbr
  clear hbr
  by_cases hlt : j < l.length
  ·have hlt' : (j : Int) < l.length := by omega
   have hlm : j < m.length := by have := HNL.out; omega
   have hlm' : (j : Int) < m.length := by omega
   have p0 : (0 : Int) ≤ (j : Int) := by omega
   obtain ⟨t, hx⟩ := get_some hlt
   obtain ⟨u, hy⟩ := get_some hlm
   have hst := sameVs_at hx hy
   obtain ⟨eb, eo, cs, rfl, heb, hce, hVt⟩ := HL.out.get j t hx
   obtain ⟨fb, fo, ds, rfl, hfb, hde, hVu⟩ := HM.out.get j u hy
   have hszr := HBR.out.size
   have hI1 : ∀ v : Ext wr.heap.size wr, IsV B v.w cs t := fun v => IsV.below (HBR.out.trans (v.below.mono hszr)) hB t cs hVt
   have hI2 : ∀ v : Ext wr.heap.size wr, IsV B v.w ds u := fun v => IsV.below (HBR.out.trans (v.below.mono hszr)) hB u ds hVu
   have HCS := Lib.hid (fun v : Ext wr.heap.size wr => ext_call v (Nat.le_refl _) (IH.out j t hx u cs ds B v.w (hI1 v) (hI2 v) (Nat.le_trans (Nat.le_trans hB hszr) v.below.size)))
   have g : ∀ (n : Nat) v, cs[n]? = some v → ∀ x : Ext wr.heap.size wr, x.w.cell? ⟨eb, eo + j * 6 + n, none⟩ = some v := fun n v hv x => by
    have h1 := hce n v hv
    rw [Nat.zero_add] at h1
    rw [Nat.add_assoc, x.below.cell (by show eb < wr.heap.size; omega), HBR.out.cell (by show eb < w.heap.size; omega)]
    exact h1
   have f : ∀ (n : Nat) v, ds[n]? = some v → ∀ x : Ext wr.heap.size wr, x.w.cell? ⟨fb, fo + j * 6 + n, none⟩ = some v := fun n v hv x => by
    have h1 := hde n v hv
    rw [Nat.zero_add] at h1
    rw [Nat.add_assoc, x.below.cell (by show fb < wr.heap.size; omega), HBR.out.cell (by show fb < w.heap.size; omega)]
    exact h1
   clear hI1 hI2 hx hy hce hde
   obtain ⟨eq, heq⟩ := nam (sameV t u)
   rw [heq] at HCS hst
   clear heq
   have HST := Lib.hid hst
   clear hst
   obtain ⟨k1, b1, i1, s1, l1, ks1⟩ := t
   obtain ⟨k2, b2, i2, s2, l2, ks2⟩ := u
   unfold IsV at hVt hVu
   obtain ⟨la1, lc1, ka1, kc1, rfl, -⟩ := hVt
   obtain ⟨la2, lc2, ka2, kc2, rfl, -⟩ := hVu
   have g0 := g 0 _ rfl
   have g1 := g 1 _ rfl
   have g2 := g 2 _ rfl
   have g3 := g 3 _ rfl
   have g4 := g 4 _ rfl
   have g5 := g 5 _ rfl
   have f0 := f 0 _ rfl
   have f1 := f 1 _ rfl
   have f2 := f 2 _ rfl
   have f3 := f 3 _ rfl
   have f4 := f 4 _ rfl
   have f5 := f 5 _ rfl
   simp only [Nat.add_zero] at g0 f0
   clear g f
   cases eq with
   | true =>
    go_wp2_with fail
    refine wp_region_ext wr.heap.size (by kernel_rfl) (by kernel_rfl) ?_
    repeat (go_big_quiet_step (exact HCS.out _))
    refine wpQuiet_nil ?_
    intro w2 hw'
    obtain ⟨u, hu⟩ := hw'
    have hb2 := u.below
    rw [← hu] at hb2
    clear hu g0 g1 g2 g3 g4 g5 f0 f1 f2 f3 f4 f5
    have HB2 := Lib.hid hb2
    clear hb2
    go_wp2_with fail
    go_roundw
    case rel => exact ⟨j + 1, by go_num, by omega, HBR.out.trans (HB2.out.mono hszr), Lib.hid (by rw [ht.out, HST.out, Bool.true_and])⟩
    case measure => simp [intOf]; omega
   | false =>
    go_wp2_with fail
    refine wp_region_ext wr.heap.size (by kernel_rfl) (by kernel_rfl) ?_
    repeat (go_big_quiet_step (exact HCS.out _))
    refine wpQuiet_nil ?_
    intro w2 hw'
    obtain ⟨u, hu⟩ := hw'
    have hb2 := u.below
    rw [← hu] at hb2
    clear hu g0 g1 g2 g3 g4 g5 f0 f1 f2 f3 f4 f5
    have HB2 := Lib.hid hb2
    clear hb2
    go_wp2_with fail
    go_ret
    exact ⟨by rw [ht.out, HST.out, Bool.false_and]; rfl, HBR.out.trans (HB2.out.mono hszr)⟩
  ·have hlt' : ¬ (j : Int) < l.length := by omega
   have HN : Hid (R = true) := Lib.hid (by rw [ht.out, List.drop_of_length_le (by omega), List.drop_of_length_le (by have := HNL.out; omega)]; rfl)
   go_wp2_with fail
   go_ret
   exact ⟨by rw [HN.out]; rfl, HBR.out⟩
theorem Se851956 {P : Prop} (h : P := by
 first
 | (guard_hyp z851956b; refine a.down (p := PSameSaid) fun k b i s l ks ih c cs ds B w hV hU hB => ?_)
 | (refine a.down (p := SameSaid) fun k b i s l ks ih c cs ds B w hV hU hB => ?_)
 obtain ⟨k', b', i', s', l', ks'⟩ := c
 have IH := Lib.hid ih
 unfold IsV at hV hU
 obtain ⟨la, lc, ka, kc, rfl, hk64, hi64, ⟨hlc, hlm⟩, ⟨hkc, hkm⟩, hla, hka, hK, hL⟩ := hV
 obtain ⟨la', lc', ka', kc', rfl, hk64', hi64', ⟨hlc', hlm'⟩, ⟨hkc', hkm'⟩, hla', hka', hK', hL'⟩ := hU
 first
 |(
  guard_hyp z851956a
  have HN := Lib.hid (fun w' (hb : Below w.heap.size w w') => sameNames_any ks ks' ka ka' kc kc' B w' (hK.below hb hB) (hK'.below hb hB) (Nat.le_trans hB hb.size) (by omega) (by omega))
  have HLS := Lib.hid (fun w' (hb : Below w.heap.size w w') => sameList_any l l' IH.out la la' lc lc' B w' (IsVs.mk fun j t ht => by
      obtain ⟨b, off, cs, h1, h2, h3, h4⟩ := hL.get j t ht
      exact ⟨b, off, cs, h1, h2, fun q v hv => by rw [hb.cell (by show b < w.heap.size; omega)]; exact h3 q v hv, IsV.below hb hB t cs h4⟩) (IsVs.mk fun j t ht => by
      obtain ⟨b, off, cs, h1, h2, h3, h4⟩ := hL'.get j t ht
      exact ⟨b, off, cs, h1, h2, fun q v hv => by rw [hb.cell (by show b < w.heap.size; omega)]; exact h3 q v hv, IsV.below hb hB t cs h4⟩) (Nat.le_trans hB hb.size) (by omega) (by omega)))
 |(
  have HN := Lib.hid (fun w' (hb : Below w.heap.size w w') => pnames_any ks ks' ka ka' kc kc' B w' (hK.below hb hB) (hK'.below hb hB) (Nat.le_trans hB hb.size) (by omega) (by omega))
  have HLS := Lib.hid (fun w' (hb : Below w.heap.size w w') => psameList_any l l' IH.out la la' lc lc' B w' (IsVs.mk fun j t ht => by
      obtain ⟨b, off, cs, h1, h2, h3, h4⟩ := hL.get j t ht
      exact ⟨b, off, cs, h1, h2, fun q v hv => by rw [hb.cell (by show b < w.heap.size; omega)]; exact h3 q v hv, IsV.below hb hB t cs h4⟩) (IsVs.mk fun j t ht => by
      obtain ⟨b, off, cs, h1, h2, h3, h4⟩ := hL'.get j t ht
      exact ⟨b, off, cs, h1, h2, fun q v hv => by rw [hb.cell (by show b < w.heap.size; omega)]; exact h3 q v hv, IsV.below hb hB t cs h4⟩) (Nat.le_trans hB hb.size) (by omega) (by omega)))
 clear ih hK hL hla hka hK' hL' hla' hka' hk64 hi64 hk64' hi64'
 obtain ⟨nm, hnm⟩ := nam (decide (ks = ks'))
 obtain ⟨ls, hls⟩ := nam (sameVs l l')
 rw [hnm] at HN
 rw [hls] at HLS
 have HR := Lib.hid (show sameV (.mk k b i s l ks) (.mk k' b' i' s' l' ks') = (decide (k = k') && decide (b = b') && decide (i = i') && decide (s = s') && nm && ls) from by rw [← hnm, ← hls]; unfold sameV; rfl)
 clear hnm hls
 first
 | (guard_hyp z851956a; show Calls Tryz.prog 54 #[.agg #[.int .i64 k, .bool b, .int .i64 i, .string s, .slice la l.length lc, .slice ka ks.length kc], .agg #[.int .i64 k', .bool b', .int .i64 i', .string s', .slice la' l'.length lc', .slice ka' ks'.length kc']] w _)
 | (show Calls Tryz.prog 83 #[.agg #[.int .i64 k, .bool b, .int .i64 i, .string s, .slice la l.length lc, .slice ka ks.length kc], .agg #[.int .i64 k', .bool b', .int .i64 i', .string s', .slice la' l'.length lc', .slice ka' ks'.length kc']] w _)
 rw [HR.out]
 have HB0 := Lib.hid (((Below.refl w.heap.size w).alloc (Nat.le_refl _) (.cells #[.int .i64 k, .bool b, .int .i64 i, .string s, .slice la l.length lc, .slice ka ks.length kc] 33)).alloc (by simp) (.cells #[.int .i64 k', .bool b', .int .i64 i', .string s', .slice la' l'.length lc', .slice ka' ks'.length kc'] 33))
 by_cases e1 : k = k'
 rotate_left
 ·have d1 : (k == k') = false := by simp; exact e1
  have D1 := Lib.hid (decide_eq_false e1)
  clear e1
  rw [D1.out]
  first
  | (guard_hyp z851956a; go_enter Tryz.func54, Tryz.ntmps54)
  | (go_enter Tryz.func83, Tryz.ntmps83)
  go_wp2_with fail
  go_ret
  exact ⟨by simp, HB0.out⟩
 subst e1
 have d1 : (k == k) = true := by simp
 cases b <;> cases b'
 ·have z270831a := trivial
  exact Se270831
 ·first
  | (guard_hyp z851956a; go_enter Tryz.func54, Tryz.ntmps54)
  | (go_enter Tryz.func83, Tryz.ntmps83)
  go_wp2_with fail
  go_ret
  exact ⟨by simp, HB0.out⟩
 ·first
  | (guard_hyp z851956a; go_enter Tryz.func54, Tryz.ntmps54)
  | (go_enter Tryz.func83, Tryz.ntmps83)
  go_wp2_with fail
  go_ret
  exact ⟨by simp, HB0.out⟩
 ·exact Se270831) : P := h
theorem Se270831 {P : Prop} (h : P := by
 by_cases e3 : i = i'
 rotate_left
 ·have d3 : (i == i') = false := by simp; exact e3
  have D3 := Lib.hid (decide_eq_false e3)
  clear e3
  rw [D3.out]
  first
  | (guard_hyp z851956a; go_enter Tryz.func54, Tryz.ntmps54)
  | (go_enter Tryz.func83, Tryz.ntmps83)
  go_wp2_with fail
  go_ret
  exact ⟨by simp, HB0.out⟩
 subst e3
 have hbe := ba_beq s s'
 by_cases e4 : s = s'
 rotate_left
 ·have d4 : (s.toList == s'.toList) = false := by rw [hbe]; exact decide_eq_false e4
  have D4 := Lib.hid (decide_eq_false e4)
  clear e4 hbe
  rw [D4.out]
  first
  | (guard_hyp z851956a; go_enter Tryz.func54, Tryz.ntmps54)
  | (go_enter Tryz.func83, Tryz.ntmps83)
  go_wp2_with fail
  go_ret
  exact ⟨by simp, HB0.out⟩
 subst e4
 clear hbe
 cases nm with
 | false =>
  first
  | (guard_hyp z851956a; go_enter Tryz.func54, Tryz.ntmps54)
  | (go_enter Tryz.func83, Tryz.ntmps83)
  go_wp2_with fail
  refine (HN.out _ HB0.out).mono ?_
  rintro e w1 ⟨rfl, hb1⟩
  go_wp2_with fail
  go_ret
  exact ⟨by simp, below_step HB0.out rfl hb1⟩
 | true =>
  first
  | (guard_hyp z851956a; go_enter Tryz.func54, Tryz.ntmps54)
  | (go_enter Tryz.func83, Tryz.ntmps83)
  go_wp2_with fail
  refine (HN.out _ HB0.out).mono ?_
  rintro e w1 ⟨rfl, hb1⟩
  have HB1 := Lib.hid (below_step HB0.out rfl hb1)
  first
  |(
   guard_hyp z270831a
   have hBX := ((Block.new w [.int .i64 k, .bool false, .int .i64 i, .string s, .slice la l.length lc, .slice ka ks.length kc] 33).alloc (.cells #[.int .i64 k, .bool false, .int .i64 i, .string s, .slice la' l'.length lc', .slice ka' ks'.length kc'] 33)).below hb1 (by simp; omega)
   have hBY := (Block.new (w.alloc (.cells #[.int .i64 k, .bool false, .int .i64 i, .string s, .slice la l.length lc, .slice ka ks.length kc] 33)) [.int .i64 k, .bool false, .int .i64 i, .string s, .slice la' l'.length lc', .slice ka' ks'.length kc'] 33).below hb1 (by simp))
  |(
   have hBX := ((Block.new w [.int .i64 k, .bool true, .int .i64 i, .string s, .slice la l.length lc, .slice ka ks.length kc] 33).alloc (.cells #[.int .i64 k, .bool true, .int .i64 i, .string s, .slice la' l'.length lc', .slice ka' ks'.length kc'] 33)).below hb1 (by simp; omega)
   have hBY := (Block.new (w.alloc (.cells #[.int .i64 k, .bool true, .int .i64 i, .string s, .slice la l.length lc, .slice ka ks.length kc] 33)) [.int .i64 k, .bool true, .int .i64 i, .string s, .slice la' l'.length lc', .slice ka' ks'.length kc'] 33).below hb1 (by simp))
  have x4 := hBX.cell (i := 4) rfl
  have y4 : w1.cell? ⟨w.heap.size + 1, 4, none⟩ = some (.slice la' l'.length lc') := by have h := hBY.cell (i := 4) rfl; simpa using h
  clear hb1 hBX hBY
  go_wp2_with fail
  refine (HLS.out _ HB1.out).mono ?_
  rintro e w2 ⟨rfl, hb2⟩
  go_wp2_with fail
  go_ret
  exact ⟨by simp, below_step HB1.out rfl hb2⟩) : P := h
set_option maxRecDepth 1000000 in
set_option maxHeartbeats 4000000 in
theorem same_any (a : Vt) : SameSaid a := by
 have z851956a := trivial
 exact Se851956
end Go.Proofs.YtndhpdclpgemfaaGreat

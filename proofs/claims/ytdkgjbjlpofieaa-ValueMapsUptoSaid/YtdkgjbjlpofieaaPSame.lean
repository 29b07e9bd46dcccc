/- Layer 3: the contracts of slices.Equal, slices.EqualFunc and Same (value), over trees. Written by genpsame.py. Conditions: none. -/
import Derived.Test.YtdkgjbjlpofieaaSame
import Derived.Test.YtdkgjbjlpofieaaParts
namespace Go.Proofs.Ytdkgjbjlpofieaa
open Go.RowKit
set_option linter.unusedSimpArgs false
set_option linter.unusedVariables false

set_option maxRecDepth 1000000 in
set_option maxHeartbeats 2000000 in
theorem pnames_any (ks ms : List ByteArray) (ka ma : Option Addr) (kc mc : Nat) (B : Nat) (w : World) (hk : StrRow B w ka ks) (hm : StrRow B w ma ms) (hB : B ≤ w.heap.size) (hkl : ks.length ≤ 9223372036854775807) (hml : ms.length ≤ 9223372036854775807) :
    Calls Try.prog 45 #[.slice ka ks.length kc, .slice ma ms.length mc] w fun e w' => e = .returned (.bool (decide (ks = ms))) ∧ Below w.heap.size w w' := by
  have HK := Lib.hid hk
  have HM := Lib.hid hm
  clear hk hm
  obtain ⟨R, hR⟩ : ∃ R, decide (ks = ms) = R := ⟨_, rfl⟩
  have HR := Lib.hid hR
  rw [hR]
  clear hR
  by_cases hn : ks.length = ms.length
  rotate_left
  · have hnb : ((ks.length : Int) != (ms.length : Int)) = true := by simp; omega
    have HN : Hid (R = false) := Lib.hid (by rw [← HR.out]; exact decide_eq_false (fun e => hn (by rw [e])))
    go_enter Try.func45, Try.ntmps45
    go_wp2_with fail
    go_ret
    exact ⟨by rw [HN.out]; rfl, Below.refl _ _⟩
  have hnb : ((ks.length : Int) != (ms.length : Int)) = false := by simp; omega
  have HNL := Lib.hid hn
  clear hn
  go_enter Try.func45, Try.ntmps45
  go_wp2_with fail
  go_loopw [13] (fun iv wr => ∃ j : Nat, iv = .int .i64 j ∧ j ≤ ks.length ∧ Below w.heap.size w wr ∧ Hid (ks.take j = ms.take j)) (fun iv _ => ks.length - (intOf iv).toNat)
  case atStart => exact ⟨0, rfl, Nat.zero_le _, Below.refl _ _, Lib.hid rfl⟩
  case round =>
    obtain ⟨j, rfl, hj, hbr, ht⟩ := hrel
    have HBR := Lib.hid hbr
    clear hbr
    by_cases hlt : j < ks.length
    · have hlt' : (j : Int) < ks.length := by omega
      have hlm : j < ms.length := by have := HNL.out; omega
      have hlm' : (j : Int) < ms.length := by omega
      have p0 : (0 : Int) ≤ (j : Int) := by omega
      obtain ⟨x, hx⟩ := get_some hlt
      obtain ⟨y, hy⟩ := get_some hlm
      obtain ⟨kb, ko, rfl, _, g1⟩ := StrRow.get (HK.out.below HBR.out hB) hx
      obtain ⟨mb, mo, rfl, _, g2⟩ := StrRow.get (HM.out.below HBR.out hB) hy
      have HX := Lib.hid hx
      have HY := Lib.hid hy
      clear hx hy
      have hbe := ba_beq x y
      by_cases he : x = y
      · have hbt : (x.toList == y.toList) = true := by rw [hbe]; exact decide_eq_true he
        have HU : Hid (ks.take (j + 1) = ms.take (j + 1)) := Lib.hid (by rw [take_succ_some HX.out, take_succ_some HY.out, ht.out, he])
        clear hbe he
        go_wp2_with fail
        go_quiet (fail)
        go_wp2_with fail
        go_roundw
        case rel => exact ⟨j + 1, by go_num, by omega, below_draws HBR.out _, HU⟩
        case measure => simp [intOf]; omega
      · have hbt : (x.toList == y.toList) = false := by rw [hbe]; exact decide_eq_false he
        have HN : Hid (R = false) := Lib.hid (by rw [← HR.out]; exact decide_eq_false (fun e => he (by have h1 := HX.out; rw [e, HY.out] at h1; exact (Option.some.inj h1).symm)))
        clear hbe he
        go_wp2_with fail
        go_quiet (fail)
        go_wp2_with fail
        go_ret
        exact ⟨by rw [HN.out]; rfl, below_draws HBR.out _⟩
    · have hlt' : ¬ (j : Int) < ks.length := by omega
      have HN : Hid (R = true) := Lib.hid (by
        rw [← HR.out]
        have h1 := ht.out
        rw [List.take_of_length_le (by omega), List.take_of_length_le (by have := HNL.out; omega)] at h1
        exact decide_eq_true h1)
      go_wp2_with fail
      go_ret
      exact ⟨by rw [HN.out]; rfl, HBR.out⟩

def PSameSaid (a : Vt) : Prop := ∀ (b : Vt) (cs ds : List Value) (B : Nat) (w : World), IsV B w cs a → IsV B w ds b → B ≤ w.heap.size →
    Calls Try.prog 29 #[.agg cs.toArray, .agg ds.toArray] w fun e w' => e = .returned (.bool (sameV a b)) ∧ Below w.heap.size w w'
set_option maxRecDepth 1000000 in
set_option maxHeartbeats 4000000 in
theorem psameList_any (l m : List Vt) (ih : ∀ (j : Nat) t, l[j]? = some t → PSameSaid t) (la ma : Option Addr) (lc mc : Nat) (B : Nat) (w : World) (hl : IsVs B w la 0 l) (hm : IsVs B w ma 0 m) (hB : B ≤ w.heap.size) (hll : l.length ≤ 9223372036854775807) (hml : m.length ≤ 9223372036854775807) :
    Calls Try.prog 49 #[.slice la l.length lc, .slice ma m.length mc, .func (.func 29) #[] #[]] w fun e w' => e = .returned (.bool (sameVs l m)) ∧ Below w.heap.size w w' := by
  have HL := Lib.hid hl
  have HM := Lib.hid hm
  have IH := Lib.hid ih
  clear hl hm ih
  obtain ⟨R, hR⟩ : ∃ R, sameVs l m = R := ⟨_, rfl⟩
  have HR := Lib.hid hR
  rw [hR]
  clear hR
  by_cases hn : l.length = m.length
  rotate_left
  · have hnb : ((l.length : Int) != (m.length : Int)) = true := by simp; omega
    have HN : Hid (R = false) := Lib.hid (by rw [← HR.out]; exact sameVs_len hn)
    go_enter Try.func49, Try.ntmps49
    go_wp2_with fail
    go_ret
    exact ⟨by rw [HN.out]; rfl, Below.refl _ _⟩
  have hnb : ((l.length : Int) != (m.length : Int)) = false := by simp; omega
  have HNL := Lib.hid hn
  clear hn
  go_enter Try.func49, Try.ntmps49
  go_wp2_with fail
  go_loopw [17] (fun iv wr => ∃ j : Nat, iv = .int .i64 j ∧ j ≤ l.length ∧ Hid (Below w.heap.size w wr) ∧ Hid (R = sameVs (l.drop j) (m.drop j))) (fun iv _ => l.length - (intOf iv).toNat)
  case atStart => exact ⟨0, rfl, Nat.zero_le _, Lib.hid (Below.refl _ _), Lib.hid HR.out.symm⟩
  case round =>
    obtain ⟨j, rfl, hj, HBR, ht⟩ := hrel
    by_cases hlt : j < l.length
    · have hlt' : (j : Int) < l.length := by omega
      have hlm : j < m.length := by have := HNL.out; omega
      have hlm' : (j : Int) < m.length := by omega
      have p0 : (0 : Int) ≤ (j : Int) := by omega
      obtain ⟨t, hx⟩ := get_some hlt
      obtain ⟨u, hy⟩ := get_some hlm
      have HST := Lib.hid (sameVs_at hx hy)
      have hz := HBR.out.size
      obtain ⟨eb, eo, k1, b1, i1, s1, l1, ks1, la1, lc1, ka1, kc1, rfl, rfl, heb, ⟨g0, g1, g2, g3, g4, g5⟩, hV1⟩ := (HL.out.below HBR.out hB).at hx
      obtain ⟨fb, fo, k2, b2, i2, s2, l2, ks2, la2, lc2, ka2, kc2, rfl, rfl, hfb, ⟨f0, f1, f2, f3, f4, f5⟩, hV2⟩ := (HM.out.below HBR.out hB).at hy
      have HCS := Lib.hid (fun w' (hb : Below wr.heap.size wr w') => IH.out j _ hx _ _ _ B w' (IsV.below hb (Nat.le_trans hB hz) _ _ hV1) (IsV.below hb (Nat.le_trans hB hz) _ _ hV2) (Nat.le_trans hB (Nat.le_trans hz hb.size)))
      have hebr : eb < wr.heap.size := by omega
      have hfbr : fb < wr.heap.size := by omega
      clear hx hy hV1 hV2
      obtain ⟨eq, heq⟩ : ∃ eq, sameV (.mk k1 b1 i1 s1 l1 ks1) (.mk k2 b2 i2 s2 l2 ks2) = eq := ⟨_, rfl⟩
      rw [heq] at HCS HST
      clear heq
      cases eq with
      | true =>
        go_wp2_with fail
        refine (HCS.out _ (((Below.refl _ _).alloc (Nat.le_refl _) _).alloc (by simp) _)).mono ?_
        rintro e w2 ⟨rfl, hb2⟩
        have HB2 := Lib.hid (below_step ((HBR.out.alloc hz _).alloc (by simp; omega) _) rfl hb2)
        clear hb2 g0 g1 g2 g3 g4 g5 f0 f1 f2 f3 f4 f5
        go_wp2_with fail
        go_roundw
        case rel => exact ⟨j + 1, by go_num, by omega, HB2, Lib.hid (by rw [ht.out, HST.out, Bool.true_and])⟩
        case measure => simp [intOf]; omega
      | false =>
        go_wp2_with fail
        refine (HCS.out _ (((Below.refl _ _).alloc (Nat.le_refl _) _).alloc (by simp) _)).mono ?_
        rintro e w2 ⟨rfl, hb2⟩
        have HB2 := Lib.hid (below_step ((HBR.out.alloc hz _).alloc (by simp; omega) _) rfl hb2)
        clear hb2 g0 g1 g2 g3 g4 g5 f0 f1 f2 f3 f4 f5
        go_wp2_with fail
        go_ret
        exact ⟨by rw [ht.out, HST.out, Bool.false_and]; rfl, HB2.out⟩
    · have hlt' : ¬ (j : Int) < l.length := by omega
      have HN : Hid (R = true) := Lib.hid (by rw [ht.out, List.drop_of_length_le (by omega), List.drop_of_length_le (by have := HNL.out; omega)]; rfl)
      go_wp2_with fail
      go_ret
      exact ⟨by rw [HN.out]; rfl, HBR.out⟩

set_option maxRecDepth 1000000 in
set_option maxHeartbeats 4000000 in
theorem psame_any (a : Vt) : PSameSaid a := by
  refine a.down (p := PSameSaid) fun k b i s l ks ih c cs ds B w hV hU hB => ?_
  obtain ⟨k', b', i', s', l', ks'⟩ := c
  have IH := Lib.hid ih
  unfold IsV at hV hU
  obtain ⟨la, lc, ka, kc, rfl, hk64, hi64, ⟨hlc, hlm⟩, ⟨hkc, hkm⟩, hla, hka, hK, hL⟩ := hV
  obtain ⟨la', lc', ka', kc', rfl, hk64', hi64', ⟨hlc', hlm'⟩, ⟨hkc', hkm'⟩, hla', hka', hK', hL'⟩ := hU
  have HN := Lib.hid (fun w' (hb : Below w.heap.size w w') => pnames_any ks ks' ka ka' kc kc' B w' (hK.below hb hB) (hK'.below hb hB) (Nat.le_trans hB hb.size) (by omega) (by omega))
  have HLS := Lib.hid (fun w' (hb : Below w.heap.size w w') => psameList_any l l' IH.out la la' lc lc' B w' (IsVs.mk fun j t ht => by
      obtain ⟨b, off, cs, h1, h2, h3, h4⟩ := hL.get j t ht
      exact ⟨b, off, cs, h1, h2, fun q v hv => by rw [hb.cell (by show b < w.heap.size; omega)]; exact h3 q v hv, IsV.below hb hB t cs h4⟩) (IsVs.mk fun j t ht => by
      obtain ⟨b, off, cs, h1, h2, h3, h4⟩ := hL'.get j t ht
      exact ⟨b, off, cs, h1, h2, fun q v hv => by rw [hb.cell (by show b < w.heap.size; omega)]; exact h3 q v hv, IsV.below hb hB t cs h4⟩) (Nat.le_trans hB hb.size) (by omega) (by omega))
  clear ih hK hL hla hka hK' hL' hla' hka' hk64 hi64 hk64' hi64'
  obtain ⟨nm, hnm⟩ : ∃ nm, decide (ks = ks') = nm := ⟨_, rfl⟩
  obtain ⟨ls, hls⟩ : ∃ ls, sameVs l l' = ls := ⟨_, rfl⟩
  rw [hnm] at HN
  rw [hls] at HLS
  have HR := Lib.hid (show sameV (.mk k b i s l ks) (.mk k' b' i' s' l' ks') = (decide (k = k') && decide (b = b') && decide (i = i') && decide (s = s') && nm && ls) from by rw [← hnm, ← hls]; unfold sameV; rfl)
  clear hnm hls
  show Calls Try.prog 29 #[.agg #[.int .i64 k, .bool b, .int .i64 i, .string s, .slice la l.length lc, .slice ka ks.length kc], .agg #[.int .i64 k', .bool b', .int .i64 i', .string s', .slice la' l'.length lc', .slice ka' ks'.length kc']] w _
  rw [HR.out]
  have HB0 := Lib.hid (((Below.refl w.heap.size w).alloc (Nat.le_refl _) (.cells #[.int .i64 k, .bool b, .int .i64 i, .string s, .slice la l.length lc, .slice ka ks.length kc] 26)).alloc (by simp) (.cells #[.int .i64 k', .bool b', .int .i64 i', .string s', .slice la' l'.length lc', .slice ka' ks'.length kc'] 26))
  by_cases e1 : k = k'
  rotate_left
  · have d1 : (k == k') = false := by simp; exact e1
    have D1 := Lib.hid (decide_eq_false e1)
    clear e1
    rw [D1.out]
    go_enter Try.func29, Try.ntmps29
    go_wp2_with fail
    go_ret
    exact ⟨by simp, HB0.out⟩
  subst e1
  have d1 : (k == k) = true := by simp
  cases b <;> cases b'
  · by_cases e3 : i = i'
    rotate_left
    · have d3 : (i == i') = false := by simp; exact e3
      have D3 := Lib.hid (decide_eq_false e3)
      clear e3
      rw [D3.out]
      go_enter Try.func29, Try.ntmps29
      go_wp2_with fail
      go_ret
      exact ⟨by simp, HB0.out⟩
    subst e3
    have hbe := ba_beq s s'
    by_cases e4 : s = s'
    rotate_left
    · have d4 : (s.toList == s'.toList) = false := by rw [hbe]; exact decide_eq_false e4
      have D4 := Lib.hid (decide_eq_false e4)
      clear e4 hbe
      rw [D4.out]
      go_enter Try.func29, Try.ntmps29
      go_wp2_with fail
      go_ret
      exact ⟨by simp, HB0.out⟩
    subst e4
    clear hbe
    cases nm with
    | false =>
      go_enter Try.func29, Try.ntmps29
      go_wp2_with fail
      refine (HN.out _ HB0.out).mono ?_
      rintro e w1 ⟨rfl, hb1⟩
      go_wp2_with fail
      go_ret
      exact ⟨by simp, below_step HB0.out rfl hb1⟩
    | true =>
      go_enter Try.func29, Try.ntmps29
      go_wp2_with fail
      refine (HN.out _ HB0.out).mono ?_
      rintro e w1 ⟨rfl, hb1⟩
      have HB1 := Lib.hid (below_step HB0.out rfl hb1)
      have hBX := ((Block.new w [.int .i64 k, .bool false, .int .i64 i, .string s, .slice la l.length lc, .slice ka ks.length kc] 26).alloc (.cells #[.int .i64 k, .bool false, .int .i64 i, .string s, .slice la' l'.length lc', .slice ka' ks'.length kc'] 26)).below hb1 (by simp; omega)
      have hBY := (Block.new (w.alloc (.cells #[.int .i64 k, .bool false, .int .i64 i, .string s, .slice la l.length lc, .slice ka ks.length kc] 26)) [.int .i64 k, .bool false, .int .i64 i, .string s, .slice la' l'.length lc', .slice ka' ks'.length kc'] 26).below hb1 (by simp)
      have x4 := hBX.cell (i := 4) rfl
      have y4 : w1.cell? ⟨w.heap.size + 1, 4, none⟩ = some (.slice la' l'.length lc') := by have h := hBY.cell (i := 4) rfl; simpa using h
      clear hb1 hBX hBY
      go_wp2_with fail
      refine (HLS.out _ HB1.out).mono ?_
      rintro e w2 ⟨rfl, hb2⟩
      go_wp2_with fail
      go_ret
      exact ⟨by simp, below_step HB1.out rfl hb2⟩
  · go_enter Try.func29, Try.ntmps29
    go_wp2_with fail
    go_ret
    exact ⟨by simp, HB0.out⟩
  · go_enter Try.func29, Try.ntmps29
    go_wp2_with fail
    go_ret
    exact ⟨by simp, HB0.out⟩
  · by_cases e3 : i = i'
    rotate_left
    · have d3 : (i == i') = false := by simp; exact e3
      have D3 := Lib.hid (decide_eq_false e3)
      clear e3
      rw [D3.out]
      go_enter Try.func29, Try.ntmps29
      go_wp2_with fail
      go_ret
      exact ⟨by simp, HB0.out⟩
    subst e3
    have hbe := ba_beq s s'
    by_cases e4 : s = s'
    rotate_left
    · have d4 : (s.toList == s'.toList) = false := by rw [hbe]; exact decide_eq_false e4
      have D4 := Lib.hid (decide_eq_false e4)
      clear e4 hbe
      rw [D4.out]
      go_enter Try.func29, Try.ntmps29
      go_wp2_with fail
      go_ret
      exact ⟨by simp, HB0.out⟩
    subst e4
    clear hbe
    cases nm with
    | false =>
      go_enter Try.func29, Try.ntmps29
      go_wp2_with fail
      refine (HN.out _ HB0.out).mono ?_
      rintro e w1 ⟨rfl, hb1⟩
      go_wp2_with fail
      go_ret
      exact ⟨by simp, below_step HB0.out rfl hb1⟩
    | true =>
      go_enter Try.func29, Try.ntmps29
      go_wp2_with fail
      refine (HN.out _ HB0.out).mono ?_
      rintro e w1 ⟨rfl, hb1⟩
      have HB1 := Lib.hid (below_step HB0.out rfl hb1)
      have hBX := ((Block.new w [.int .i64 k, .bool true, .int .i64 i, .string s, .slice la l.length lc, .slice ka ks.length kc] 26).alloc (.cells #[.int .i64 k, .bool true, .int .i64 i, .string s, .slice la' l'.length lc', .slice ka' ks'.length kc'] 26)).below hb1 (by simp; omega)
      have hBY := (Block.new (w.alloc (.cells #[.int .i64 k, .bool true, .int .i64 i, .string s, .slice la l.length lc, .slice ka ks.length kc] 26)) [.int .i64 k, .bool true, .int .i64 i, .string s, .slice la' l'.length lc', .slice ka' ks'.length kc'] 26).below hb1 (by simp)
      have x4 := hBX.cell (i := 4) rfl
      have y4 : w1.cell? ⟨w.heap.size + 1, 4, none⟩ = some (.slice la' l'.length lc') := by have h := hBY.cell (i := 4) rfl; simpa using h
      clear hb1 hBX hBY
      go_wp2_with fail
      refine (HLS.out _ HB1.out).mono ?_
      rintro e w2 ⟨rfl, hb2⟩
      go_wp2_with fail
      go_ret
      exact ⟨by simp, below_step HB1.out rfl hb2⟩
end Go.Proofs.Ytdkgjbjlpofieaa

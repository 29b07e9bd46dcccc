/- Parts S25 of this seat (pruned, scripts that are alike kept once as default arguments: q1, q2, ..). Conditions: each says its own. -/
import Derived.Test.YtndhpdclpgemfaaGreatZ21
namespace Go.Proofs.YtndhpdclpgemfaaGreat
open Go.RowKit Go.Shelf
set_option linter.unusedSimpArgs false
set_option linter.unusedVariables false
theorem Tryz.info9 : (Tryz.prog.info? 9).map (fun i => (i.zero, i.size, i.bytes)) = some (some (.string ⟨#[]⟩), 1, 16) := by kernel_rfl
def strsV (xs : List (List UInt8)) : List Value := xs.map fun p => .string (strOf p)
theorem strsV_len (xs : List (List UInt8)) : (strsV xs).length = xs.length := by simp [strsV]
theorem strsV_snoc (xs : List (List UInt8)) (x : List UInt8) : strsV (xs ++ [x]) = strsV xs ++ [.string (strOf x)] := by simp [strsV]
theorem join_own {base : Nat} {w : World} {v : Value} {xs : List (List UInt8)} (h : w.ownsRow base 9 1 v xs.length (strsV xs)) (hl : (jn xs).length ≤ 140737488355328) (hn : xs.length ≤ 140737488355328) :
    Calls Tryz.prog 185 #[v, .string ⟨#[44, 32]⟩] w fun e w' => e = .returned (.string (strOf (jn xs))) ∧ Below w.heap.size w w' := by
 rcases h.2 with ⟨rfl, hx⟩ | ⟨g, cap, cur, rfl, _, hg, hle, _, hcs, _⟩
 ·have hx0 : xs = [] := List.length_eq_zero_iff.1 (by omega)
  subst hx0
  refine (Any.strings_Join_none { shLays156 with } shExtra none 0 ⟨#[44, 32]⟩ w).mono ?_
  rintro e w' ⟨rfl, rfl⟩
  exact ⟨rfl, Below.refl _ _⟩
 ·have hc := h.cells (g := g) rfl
  have hj : Lib.join ((xs.map strOf).map (·.data.toList)) [44, 32] = jn xs := by
   unfold jn
   congr 1
   rw [List.map_map]
   exact (List.map_congr_left fun p _ => rfl).trans (List.map_id xs)
  have hk := Any.strings_Join { shLays156 with } shExtra g 0 cap (xs.map strOf) ⟨#[44, 32]⟩ w (fun j x hx => by
   rw [List.getElem?_map] at hx
   cases hxj : xs[j]? with
   | none => rw [hxj] at hx; cases hx
   | some p =>
    rw [hxj] at hx
    cases hx
    have := hc j (.string (strOf p)) (by unfold strsV; rw [List.getElem?_map, hxj]; rfl)
    rwa [addr_add] at this) (Array.getElem?_eq_some_iff.1 hg).1 (by rw [List.length_map]; exact hn) (by rw [List.length_map]; exact hle) (by
     show (Lib.join ((xs.map strOf).map (·.data.toList)) [44, 32]).length ≤ _
     rw [hj]; exact hl)
  rw [List.length_map] at hk
  refine hk.mono ?_
  rintro e w' ⟨rfl, hb⟩
  refine ⟨?_, hb⟩
  show Ending.returned (.string ⟨(Lib.join ((xs.map strOf).map (·.data.toList)) [44, 32]).toArray⟩) = _
  rw [hj]
  rfl
def ShowSaid (t : Vt) : Prop := ∀ (cs : List Value) (B : Nat) (w : World), IsV B w cs t → B ≤ w.heap.size → MayE t → wtV t ≤ 4194304 →
    Calls Tryz.prog 179 #[.agg cs.toArray] w fun e w' => e = .returned (.string (strOf (showV t))) ∧ Below w.heap.size w w'
set_option maxRecDepth 1000000 in
set_option maxHeartbeats 4000000 in
theorem show_any (t : Vt) : ShowSaid t := by
 refine t.down (p := ShowSaid) fun k b i s l ks ih cs B w hV hB hM hw => ?_
 have HV0 := Lib.hid hV
 unfold IsV at hV
 obtain ⟨la, lc, ka, kc, rfl, hk64, hi64, ⟨hlc, hlm⟩, ⟨hkc, hkm⟩, hla, hka, hK, hL⟩ := hV
 have HI64 : Hid (In64 i) := Lib.hid hi64
 obtain ⟨hk0, hk7, hm5, hmM⟩ := hM.head
 have hss : s.size ≤ 4194304 := by have h := hw; simp only [wtV] at h; omega
 have hPL := jn_parts_len k b i s l ks
 have hpl := shPartsV_len (k := k) (ks := ks) (l := l) hm5
 have hwl : ∀ (j : Nat) t, l[j]? = some t → wtV t ≤ 4194304 := fun j t ht => by have h := hw; simp only [wtV] at h; have := wtVs_get ht; omega
 have hkl : ∀ (j : Nat) x, ks[j]? = some x → x.size ≤ 4194304 := fun j x hx => by have h := hw; simp only [wtV] at h; have := sum_get (fun k : ByteArray => k.size + 1) hx; omega
 have HKL := Lib.hid hkl
 have IH := Lib.hid (fun (j : Nat) t (ht : l[j]? = some t) cs B w h1 h2 => ih j t ht cs B w h1 h2 (hmM j t ht) (hwl j t ht))
 obtain ⟨HK, HLs, HPL, HPN, HW, HM5⟩ := hd6 hK hL hPL hpl hw hm5
 clear ih hK hL hla hka hwl hmM hM hi64 hk64 hm5 hPL hpl hkl hw
 show Calls Tryz.prog 179 #[.agg #[.int .i64 k, .bool b, .int .i64 i, .string s, .slice la l.length lc, .slice ka ks.length kc]] w _
 have HB0 := Lib.hid ((Below.refl w.heap.size w).alloc (Nat.le_refl _) (.cells #[.int .i64 k, .bool b, .int .i64 i, .string s, .slice la l.length lc, .slice ka ks.length kc] 33))
 have HBX := Lib.hid (Block.new w [.int .i64 k, .bool b, .int .i64 i, .string s, .slice la l.length lc, .slice ka ks.length kc] 33)
 by_cases k1 : k = 1
 ·subst k1
  cases b with
  | true =>
   have HE := Lib.hid (show showV (.mk 1 true i s l ks) = [116, 114, 117, 101] from by unfold showV; rfl)
   rw [HE.out]
   go_enter Tryz.func179, Tryz.ntmps179
   go_wp2_with fail
   go_ret
   exact ⟨rfl, HB0.out⟩
  | false =>
   have HE := Lib.hid (show showV (.mk 1 false i s l ks) = [102, 97, 108, 115, 101] from by unfold showV; rfl)
   rw [HE.out]
   go_enter Tryz.func179, Tryz.ntmps179
   go_wp2_with fail
   go_ret
   exact ⟨rfl, HB0.out⟩
 by_cases k2 : k = 2
 ·subst k2
  have HE := Lib.hid (show showV (.mk 2 b i s l ks) = textOf i from by unfold showV; rfl)
  rw [HE.out]
  go_enter Tryz.func179, Tryz.ntmps179
  go_wp2_with fail
  refine (text_any i _ HI64.out).mono ?_
  rintro e w1 ⟨rfl, hb1⟩
  go_wp2_with fail
  go_ret
  exact ⟨rfl, below_step HB0.out rfl hb1⟩
 by_cases k3 : k = 3
 ·subst k3
  have HE := Lib.hid (show showV (.mk 3 b i s l ks) = 39 :: (quoteL s.data.toList ++ [39]) from by unfold showV; rfl)
  rw [HE.out]
  go_enter Tryz.func179, Tryz.ntmps179
  go_wp2_with fail
  refine (quote_any s _ (by omega)).mono ?_
  rintro e w1 ⟨rfl, hb1⟩
  go_wp2_with fail
  go_ret
  exact ⟨rfl, below_step HB0.out rfl hb1⟩
 by_cases k6 : k = 6
 ·subst k6
  have HE := Lib.hid (show showV (.mk 6 b i s l ks) = [35, 110] ++ textOf i from by unfold showV; rfl)
  have hlt := textOf_len i
  rw [HE.out]
  have ha := fun u => add_of [35, 110] (textOf i) _ rfl u (by simp; omega) (r := [35, 110] ++ textOf i) rfl
  have HT := Lib.hid (fun w => text_any i w HI64.out)
  clear HE
  generalize textOf i = x at *
  go_enter Tryz.func179, Tryz.ntmps179
  go_wp2_with fail
  refine (HT.out _).mono ?_
  rintro e w1 ⟨rfl, hb1⟩
  have HB1 := Lib.hid hb1
  clear hb1
  have ha2 : ∀ u, (Op.stringOp .add ⟨#[35, 110]⟩ ⟨x.toArray⟩).run Tryz.prog u = .ok (.string (strOf ([35, 110] ++ x))) u := ha
  clear ha
  go_wp2_with fail
  go_ret
  exact ⟨rfl, below_step HB0.out rfl HB1.out⟩
 by_cases k7 : k = 7
 ·subst k7
  have HE := Lib.hid (show showV (.mk 7 b i s l ks) = [35, 101] ++ textOf i from by unfold showV; rfl)
  have hlt := textOf_len i
  rw [HE.out]
  have ha := fun u => add_of [35, 101] (textOf i) _ rfl u (by simp; omega) (r := [35, 101] ++ textOf i) rfl
  have HT := Lib.hid (fun w => text_any i w HI64.out)
  clear HE
  generalize textOf i = x at *
  go_enter Tryz.func179, Tryz.ntmps179
  go_wp2_with fail
  refine (HT.out _).mono ?_
  rintro e w1 ⟨rfl, hb1⟩
  have HB1 := Lib.hid hb1
  clear hb1
  have ha2 : ∀ u, (Op.stringOp .add ⟨#[35, 101]⟩ ⟨x.toArray⟩).run Tryz.prog u = .ok (.string (strOf ([35, 101] ++ x))) u := ha
  clear ha
  go_wp2_with fail
  go_ret
  exact ⟨rfl, below_step HB0.out rfl HB1.out⟩
 by_cases k4 : k = 4
 ·subst k4
  have HE := Lib.hid (show showV (.mk 4 b i s l ks) = [91] ++ jn (shPartsV 4 ks l) ++ [93] from by unfold showV; rfl)
  rw [HE.out]
  clear HE
  obtain ⟨i0, hi, hz0, hz1, hz2⟩ := info_parts Tryz.info9
  have I0 := Lib.hid hi
  have I1 := Lib.hid hz0
  have I2 := Lib.hid hz1
  have I3 := Lib.hid hz2
  clear hi hz0 hz1 hz2
  go_enter Tryz.func179, Tryz.ntmps179
  go_wp2_with fail
  go_loopw [3, 41] (fun pv iv wr => ∃ (j : Nat), iv = .int .i64 j ∧ wr.ownsRow (w.heap.size + 1) 9 1 pv j (strsV ((shPartsV 4 ks l).take j)) ∧ j ≤ l.length ∧ Below (w.heap.size + 1) (w.alloc (.cells #[.int .i64 4, .bool b, .int .i64 i, .string s, .slice la l.length lc, .slice ka ks.length kc] 33)) wr) (fun _ iv _ => l.length - (intOf iv).toNat)
  case atStart => exact ⟨0, rfl, World.ownsRow_nil _ _ _ _, Nat.zero_le _, Below.refl _ _⟩
  case round =>
   obtain ⟨j, rfl, hown, hj, hbr⟩ := hrel
   have hBR := HBX.out.below hbr (by simp)
   have y0 := hBR.cell (i := 0) rfl
   have y4 := hBR.cell (i := 4) rfl
   obtain ⟨HBK, HO, HBR⟩ := hd3 hBR hown hbr
   clear hBR hown hbr
   have hszr : w.heap.size + 1 ≤ wr.heap.size := Nat.le_trans (by simp) HBR.out.size
   have hll : l.length ≤ 4194304 := by have h1 := wtVs_len l; have h2 := HW.out; simp only [wtV] at h2; omega
   have hjl := jn_len ((shPartsV 4 ks l).take j)
   have hjs := sum_take (shPartsV 4 ks l) j
   have hjw : (jn ((shPartsV 4 ks l).take j)).length ≤ 134217728 := by have h1 := HPL.out; have h2 := HW.out; omega
   clear hjl hjs
   have p0 : (0 : Int) ≤ (j : Int) := by omega
   by_cases hlt : j < l.length
   ·have hlt' : (j : Int) < l.length := by omega
    obtain ⟨t, ht⟩ := get_some hlt
    obtain ⟨eb, eo, cs, rfl, heb, hce, hVt⟩ := HLs.out.get j t ht
    have hbw : Below w.heap.size w wr := HB0.out.trans (HBR.out.mono (by omega))
    have HBW := Lib.hid hbw
    have hIt : ∀ w', Below wr.heap.size wr w' → IsV B w' cs t := fun w' hb => IsV.below (hbw.trans (hb.mono (by omega))) hB t cs hVt
    have hszB : B ≤ wr.heap.size := by omega
    have HI := Lib.hid (fun w' (hb : Below wr.heap.size wr w') => IH.out j t ht cs B w' (hIt w' hb) (Nat.le_trans hszB hb.size))
    have hsl := showV_len t
    have hwt : wtV t ≤ 4194304 := by have h1 := wtVs_get ht; have h2 := HW.out; simp only [wtV] at h2; omega
    have g : ∀ (n : Nat) v, cs[n]? = some v → wr.cell? ⟨eb, eo + j * 6 + n, none⟩ = some v := fun n v hv => by
     have h1 := hce n v hv
     rw [Nat.zero_add] at h1
     rw [Nat.add_assoc, hbw.cell (by show eb < w.heap.size; omega)]
     exact h1
    clear hIt hbw
    have hsnoc : (shPartsV 4 ks l).take (j + 1) = (shPartsV 4 ks l).take j ++ [showV t] := showVs_take ht
    obtain ⟨X, hX⟩ := nam (showV t)
    rw [hX] at HI hsl hsnoc
    clear hX
    obtain ⟨k2, b2, i2, s2, l2, ks2⟩ := t
    unfold IsV at hVt
    obtain ⟨la2, lc2, ka2, kc2, rfl, -⟩ := hVt
    have g0 := g 0 _ rfl
    have g1 := g 1 _ rfl
    have g2 := g 2 _ rfl
    have g3 := g 3 _ rfl
    have g4 := g 4 _ rfl
    have g5 := g 5 _ rfl
    rw [Nat.add_zero] at g0
    clear g hce
    have HSN := Lib.hid hsnoc
    clear hsnoc
    have HBX2 := Lib.hid (Below.alloc (Below.refl wr.heap.size wr) (Nat.le_refl _) (.cells #[.int .i64 k2, .bool b2, .int .i64 i2, .string s2, .slice la2 l2.length lc2, .slice ka2 ks2.length kc2] 33))
    have HI0 := Lib.hid (HI.out _ HBX2.out)
    go_wp2_with fail
    refine HI0.out.mono ?_
    rintro e w2 ⟨rfl, hb2⟩
    have HB2 := Lib.hid (HBX2.out.trans (hb2.mono (by simp)))
    have HB2a := Lib.hid hb2
    clear hb2
    have hsz2 : wr.heap.size ≤ w2.heap.size := HB2.out.size
    have HO2 : Hid (w2.ownsRow (w.heap.size + 1) 9 1 u3 j (strsV ((shPartsV 4 ks l).take j))) := Lib.hid (ownsRow_below HO.out HB2.out)
    have HBK2 := Lib.hid (HBK.out.below HB2.out HBK.out.lt)
    have z0 := HBK2.out.cell (i := 0) rfl
    have z5 := HBK2.out.cell (i := 5) rfl
    have hlen9 : (strsV ((shPartsV 4 ks l).take j)).length = j := by rw [strsV_len, List.length_take, HPN.out]; omega
    have HBT : Hid (Below (w.heap.size + 1) (w.alloc (.cells #[.int .i64 4, .bool b, .int .i64 i, .string s, .slice (some ⟨eb, eo, none⟩) l.length lc, .slice ka ks.length kc] 33)) w2) := Lib.hid (HBR.out.trans (HB2.out.mono hszr))
    clear z5
    go_wp2_with (at_builtin; refine wpList_append_own _ rfl _ _ 31 rfl (w.heap.size + 1) 9 i0 (.string ⟨#[]⟩) 1 16 Tryz.underlying31 I0.out I1.out I2.out I3.out rfl (by omega) u3 j (strsV ((shPartsV 4 ks l).take j)) rfl (HO2.out.alloc _) ⟨w2.heap.size, 0, none⟩ 1 1 [.string (strOf X)] rfl rfl (World.news_of_block (cs := #[.string (strOf X)]) (t := 9) (fr := (0, 0)) (heap_alloc_new _ _)) (by simp [Value.oneCell']) (by unfold maxLen; omega) (by omega) (by simp; omega) ?_)
    intro v1 w4 hown1 hgrow _
    have HO1 : Hid (w4.ownsRow (w.heap.size + 1) 9 1 v1 (j + 1) (strsV ((shPartsV 4 ks l).take (j + 1)))) := Lib.hid (by rw [HSN.out, strsV_snoc]; exact hown1)
    have HB4 : Hid (Below (w.heap.size + 1) _ w4) := Lib.hid (Below.grown (HBT.out.alloc (by omega) _) hgrow (by simp; omega) (fun k hk => (HO2.out.lt k hk).1))
    clear hown1 hgrow
    go_wp2_with fail
    go_roundw
    case rel => exact ⟨j + 1, by go_num, HO1.out, by omega, HB4.out⟩
    case measure => simp [intOf]; omega
   ·have hlt' : ¬ (j : Int) < l.length := by omega
    have hjn : j = l.length := by omega
    have HT := Lib.hid (show (shPartsV 4 ks l).take j = shPartsV 4 ks l from List.take_of_length_le (by have := HPN.out; omega))
    rw [HT.out] at hjw HO
    have HO9 : Hid (wr.ownsRow (w.heap.size + 1) 9 1 u3 (shPartsV 4 ks l).length (strsV (shPartsV 4 ks l))) := Lib.hid (by rw [HPN.out, ← hjn]; exact HO.out)
    have hJO := join_own HO9.out (by omega) (by rw [HPN.out]; omega)
    obtain ⟨J, hJ⟩ := nam (jn (shPartsV 4 ks l))
    rw [hJ] at hjw hJO
    have HJ := Lib.hid hJ
    have HJO := Lib.hid hJO
    clear hJ hJO hjn
    obtain ⟨Y1, hY1⟩ := nam ([91] ++ J)
    have hyl : Y1.length = J.length + 1 := by rw [← hY1]; simp
    have ha1 : ∀ u, (Op.stringOp .add ⟨#[91]⟩ (strOf J)).run Tryz.prog u = .ok (.string (strOf Y1)) u := fun u => add_of [91] J _ rfl u (by simp; omega) hY1
    have ha2 := fun u => add_of Y1 [93] ⟨#[93]⟩ rfl u (by simp; omega) (r := Y1 ++ [93]) rfl
    have HY1 := Lib.hid hY1
    clear hY1
    go_wp2_with fail
    refine HJO.out.mono ?_
    rintro e w5 ⟨rfl, hb5⟩
    have HB5 := Lib.hid hb5
    clear hb5
    go_wp2_with fail
    go_ret
    exact ⟨str_ret (congrArg strOf (by rw [← HY1.out, ← HJ.out]; simp)), HB0.out.trans ((HBR.out.mono (by omega)).trans (HB5.out.mono (by omega)))⟩
 by_cases k5 : k = 5
 ·subst k5
  have HE := Lib.hid (show showV (.mk 5 b i s l ks) = [123] ++ jn (shPartsV 5 ks l) ++ [125] from by unfold showV; rfl)
  rw [HE.out]
  clear HE
  have HN5 := Lib.hid (HM5.out rfl)
  obtain ⟨i0, hi, hz0, hz1, hz2⟩ := info_parts Tryz.info9
  have I0 := Lib.hid hi
  have I1 := Lib.hid hz0
  have I2 := Lib.hid hz1
  have I3 := Lib.hid hz2
  clear hi hz0 hz1 hz2
  go_enter Tryz.func179, Tryz.ntmps179
  go_wp2_with fail
  go_loopw [3, 41] (fun pv iv wr => ∃ (j : Nat), iv = .int .i64 j ∧ wr.ownsRow (w.heap.size + 1) 9 1 pv j (strsV ((shPartsV 5 ks l).take j)) ∧ j ≤ l.length ∧ Below (w.heap.size + 1) (w.alloc (.cells #[.int .i64 5, .bool b, .int .i64 i, .string s, .slice la l.length lc, .slice ka ks.length kc] 33)) wr) (fun _ iv _ => l.length - (intOf iv).toNat)
  case atStart => exact ⟨0, rfl, World.ownsRow_nil _ _ _ _, Nat.zero_le _, Below.refl _ _⟩
  case round =>
   obtain ⟨j, rfl, hown, hj, hbr⟩ := hrel
   have hBR := HBX.out.below hbr (by simp)
   have y0 := hBR.cell (i := 0) rfl
   have y4 := hBR.cell (i := 4) rfl
   obtain ⟨HBK, HO, HBR⟩ := hd3 hBR hown hbr
   clear hBR hown hbr
   have hszr : w.heap.size + 1 ≤ wr.heap.size := Nat.le_trans (by simp) HBR.out.size
   have hll : l.length ≤ 4194304 := by have h1 := wtVs_len l; have h2 := HW.out; simp only [wtV] at h2; omega
   have hjl := jn_len ((shPartsV 5 ks l).take j)
   have hjs := sum_take (shPartsV 5 ks l) j
   have hjw : (jn ((shPartsV 5 ks l).take j)).length ≤ 134217728 := by have h1 := HPL.out; have h2 := HW.out; omega
   clear hjl hjs
   have p0 : (0 : Int) ≤ (j : Int) := by omega
   by_cases hlt : j < l.length
   ·have hlt' : (j : Int) < l.length := by omega
    obtain ⟨t, ht⟩ := get_some hlt
    obtain ⟨eb, eo, cs, rfl, heb, hce, hVt⟩ := HLs.out.get j t ht
    have hbw : Below w.heap.size w wr := HB0.out.trans (HBR.out.mono (by omega))
    have HBW := Lib.hid hbw
    have hIt : ∀ w', Below wr.heap.size wr w' → IsV B w' cs t := fun w' hb => IsV.below (hbw.trans (hb.mono (by omega))) hB t cs hVt
    have hszB : B ≤ wr.heap.size := by omega
    have HI := Lib.hid (fun w' (hb : Below wr.heap.size wr w') => IH.out j t ht cs B w' (hIt w' hb) (Nat.le_trans hszB hb.size))
    have hsl := showV_len t
    have hwt : wtV t ≤ 4194304 := by have h1 := wtVs_get ht; have h2 := HW.out; simp only [wtV] at h2; omega
    have g : ∀ (n : Nat) v, cs[n]? = some v → wr.cell? ⟨eb, eo + j * 6 + n, none⟩ = some v := fun n v hv => by
     have h1 := hce n v hv
     rw [Nat.zero_add] at h1
     rw [Nat.add_assoc, hbw.cell (by show eb < w.heap.size; omega)]
     exact h1
    clear hIt hbw
    have hltk : j < ks.length := by have := HN5.out; omega
    have hltk' : (j : Int) < ks.length := by omega
    obtain ⟨x, hx⟩ := get_some hltk
    have hxs := HKL.out j x hx
    have hsnoc : (shPartsV 5 ks l).take (j + 1) = (shPartsV 5 ks l).take j ++ [keyL x.data.toList ++ [58, 32] ++ showV t] := withKeys_take ht hx
    have hkyl := keyL_len x.data.toList
    have hxl : x.data.toList.length = x.size := by simp
    rw [hxl] at hkyl
    have HKY := Lib.hid (fun w => key_any x w (by omega))
    have HX := Lib.hid hx
    clear hx hxl
    obtain ⟨X, hX⟩ := nam (showV t)
    rw [hX] at HI hsl hsnoc
    clear hX
    obtain ⟨k2, b2, i2, s2, l2, ks2⟩ := t
    unfold IsV at hVt
    obtain ⟨la2, lc2, ka2, kc2, rfl, -⟩ := hVt
    have g0 := g 0 _ rfl
    have g1 := g 1 _ rfl
    have g2 := g 2 _ rfl
    have g3 := g 3 _ rfl
    have g4 := g 4 _ rfl
    have g5 := g 5 _ rfl
    rw [Nat.add_zero] at g0
    clear g hce
    have HSN := Lib.hid hsnoc
    clear hsnoc
    have HBX2 := Lib.hid (Below.alloc (Below.refl wr.heap.size wr) (Nat.le_refl _) (.cells #[.int .i64 k2, .bool b2, .int .i64 i2, .string s2, .slice la2 l2.length lc2, .slice ka2 ks2.length kc2] 33))
    have HI0 := Lib.hid (HI.out _ HBX2.out)
    go_wp2_with fail
    refine HI0.out.mono ?_
    rintro e w2 ⟨rfl, hb2⟩
    have HB2 := Lib.hid (HBX2.out.trans (hb2.mono (by simp)))
    have HB2a := Lib.hid hb2
    clear hb2
    have hsz2 : wr.heap.size ≤ w2.heap.size := HB2.out.size
    have HO2 : Hid (w2.ownsRow (w.heap.size + 1) 9 1 u3 j (strsV ((shPartsV 5 ks l).take j))) := Lib.hid (ownsRow_below HO.out HB2.out)
    have HBK2 := Lib.hid (HBK.out.below HB2.out HBK.out.lt)
    have z0 := HBK2.out.cell (i := 0) rfl
    have z5 := HBK2.out.cell (i := 5) rfl
    have hlen9 : (strsV ((shPartsV 5 ks l).take j)).length = j := by rw [strsV_len, List.length_take, HPN.out]; omega
    have hKr : StrRow B w2 ka ks := HK.out.below (HBW.out.trans (HB2.out.mono (by omega))) hB
    rcases hKr with h0 | ⟨kb, ko, rfl, hkb, hkc'⟩
    ·exfalso; rw [List.map_eq_nil_iff] at h0; rw [h0] at hltk; simp at hltk
    have gk : w2.cell? ⟨kb, ko + j, none⟩ = some (.string x) := hkc' j _ (by rw [List.getElem?_map, HX.out]; rfl)
    clear hkc'
    generalize keyL x.data.toList = KY at *
    obtain ⟨Z1, hZ1⟩ : ∃ Z1, KY ++ [58, 32] = Z1 := ⟨_, rfl⟩
    obtain ⟨Z2, hZ2⟩ := nam (Z1 ++ X)
    have hz1l : Z1.length = KY.length + 2 := by rw [← hZ1]; simp
    have ha1 := fun u => add_of KY [58, 32] ⟨#[58, 32]⟩ rfl u (by simp; omega) hZ1
    have ha2 := fun u => add_of Z1 X _ rfl u (by omega) hZ2
    have HSN2 : Hid ((shPartsV 5 ks l).take (j + 1) = (shPartsV 5 ks l).take j ++ [Z2]) := Lib.hid (by rw [HSN.out, ← hZ2, ← hZ1])
    clear hZ1 hZ2
    go_wp2_with fail
    refine (HKY.out _).mono ?_
    rintro e w3 ⟨rfl, hb3⟩
    have HB3 := Lib.hid hb3
    clear hb3 z0 z5 gk
    have hsz3 : w2.heap.size ≤ w3.heap.size := HB3.out.size
    have HO3 : Hid (w3.ownsRow (w.heap.size + 1) 9 1 u3 j (strsV ((shPartsV 5 ks l).take j))) := Lib.hid (ownsRow_below HO2.out HB3.out)
    have HBT : Hid (Below (w.heap.size + 1) (w.alloc (.cells #[.int .i64 5, .bool b, .int .i64 i, .string s, .slice (some ⟨eb, eo, none⟩) l.length lc, .slice (some ⟨kb, ko, none⟩) ks.length kc] 33)) w3) := Lib.hid (HBR.out.trans ((HB2.out.mono hszr).trans (HB3.out.mono (by omega))))
    go_wp2_with (at_builtin; refine wpList_append_own _ rfl _ _ 31 rfl (w.heap.size + 1) 9 i0 (.string ⟨#[]⟩) 1 16 Tryz.underlying31 I0.out I1.out I2.out I3.out rfl (by omega) u3 j (strsV ((shPartsV 5 ks l).take j)) rfl (HO3.out.alloc _) ⟨w3.heap.size, 0, none⟩ 1 1 [.string (strOf Z2)] rfl rfl (World.news_of_block (cs := #[.string (strOf Z2)]) (t := 9) (fr := (0, 0)) (heap_alloc_new _ _)) (by simp [Value.oneCell']) (by unfold maxLen; omega) (by omega) (by simp; omega) ?_)
    intro v1 w4 hown1 hgrow _
    have HO1 : Hid (w4.ownsRow (w.heap.size + 1) 9 1 v1 (j + 1) (strsV ((shPartsV 5 ks l).take (j + 1)))) := Lib.hid (by rw [HSN2.out, strsV_snoc]; exact hown1)
    have HB4 : Hid (Below (w.heap.size + 1) _ w4) := Lib.hid (Below.grown (HBT.out.alloc (by omega) _) hgrow (by simp; omega) (fun k hk => (HO3.out.lt k hk).1))
    clear hown1 hgrow
    go_wp2_with fail
    go_roundw
    case rel => exact ⟨j + 1, by go_num, HO1.out, by omega, HB4.out⟩
    case measure => simp [intOf]; omega
   ·have hlt' : ¬ (j : Int) < l.length := by omega
    have hjn : j = l.length := by omega
    have HT := Lib.hid (show (shPartsV 5 ks l).take j = shPartsV 5 ks l from List.take_of_length_le (by have := HPN.out; omega))
    rw [HT.out] at hjw HO
    have HO9 : Hid (wr.ownsRow (w.heap.size + 1) 9 1 u3 (shPartsV 5 ks l).length (strsV (shPartsV 5 ks l))) := Lib.hid (by rw [HPN.out, ← hjn]; exact HO.out)
    have hJO := join_own HO9.out (by omega) (by rw [HPN.out]; omega)
    obtain ⟨J, hJ⟩ := nam (jn (shPartsV 5 ks l))
    rw [hJ] at hjw hJO
    have HJ := Lib.hid hJ
    have HJO := Lib.hid hJO
    clear hJ hJO hjn
    obtain ⟨Y1, hY1⟩ := nam ([123] ++ J)
    have hyl : Y1.length = J.length + 1 := by rw [← hY1]; simp
    have ha1 : ∀ u, (Op.stringOp .add ⟨#[123]⟩ (strOf J)).run Tryz.prog u = .ok (.string (strOf Y1)) u := fun u => add_of [123] J _ rfl u (by simp; omega) hY1
    have ha2 := fun u => add_of Y1 [125] ⟨#[125]⟩ rfl u (by simp; omega) (r := Y1 ++ [125]) rfl
    have HY1 := Lib.hid hY1
    clear hY1
    go_wp2_with fail
    refine HJO.out.mono ?_
    rintro e w5 ⟨rfl, hb5⟩
    have HB5 := Lib.hid hb5
    clear hb5
    go_wp2_with fail
    go_ret
    exact ⟨str_ret (congrArg strOf (by rw [← HY1.out, ← HJ.out]; simp)), HB0.out.trans ((HBR.out.mono (by omega)).trans (HB5.out.mono (by omega)))⟩
 have k0 : k = 0 := by omega
 subst k0
 have HE := Lib.hid (show showV (.mk 0 b i s l ks) = [110, 117, 108, 108] from by unfold showV; rfl)
 rw [HE.out]
 go_enter Tryz.func179, Tryz.ntmps179
 go_wp2_with fail
 go_ret
 exact ⟨rfl, HB0.out⟩
end Go.Proofs.YtndhpdclpgemfaaGreat

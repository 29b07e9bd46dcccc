/- Parts S24, S18, S27, S28, L8 of this seat (pruned, scripts that are alike kept once as default arguments: q1, q2, ..). Conditions: each says its own. -/
import Derived.Test.YtndhpdclpgemfaaGreatY3
import Derived.Test.YtndhpdclpgemfaaGreatY4
import Derived.Test.YtndhpdclpgemfaaGreatY10
import Derived.Test.YtndhpdclpgemfaaGreatY12
import Derived.Test.YtndhpdclpgemfaaGreatY15
namespace Go.Proofs.YtndhpdclpgemfaaGreat
open Go.RowKit Go.Shelf
set_option linter.unusedSimpArgs false
set_option linter.unusedVariables false
inductive MayE : Vt → Prop
  | mk (k : Int) (b : Bool) (i : Int) (s : ByteArray) (l : List Vt) (ks : List ByteArray) (h1 : 0 ≤ k) (h2 : k ≤ 7) (h3 : k = 5 → ks.length = l.length) (h4 : unusedV k b i s l.length ks.length = true) (h5 : ∀ (j : Nat) u, l[j]? = some u → MayE u) : MayE (.mk k b i s l ks)
theorem MayE.head {k : Int} {b : Bool} {i : Int} {s : ByteArray} {l : List Vt} {ks : List ByteArray} (h : MayE (.mk k b i s l ks)) : 0 ≤ k ∧ k ≤ 7 ∧ (k = 5 → ks.length = l.length) ∧ ∀ (j : Nat) u, l[j]? = some u → MayE u := by
 cases h with
 | mk _ _ _ _ _ _ h1 h2 h3 h4 h5 => exact ⟨h1, h2, h3, h5⟩
theorem MayE.of_may (t : Vt) : ∀ d p, (mayV t d p).2 = true → MayE t := by
 refine t.down (p := fun t => ∀ d p, (mayV t d p).2 = true → MayE t) fun k b i s l ks ih d p h => ?_
 obtain ⟨k', b', i', s', l', ks', he, hh, hp⟩ := mayV_parts h
 injection he with e1 e2 e3 e4 e5 e6
 subst e1 e2 e3 e4 e5 e6
 have h9 := of_decide_eq_true hh
 exact .mk _ _ _ _ _ _ h9.2.2.1 h9.2.2.2.1 (fun h5 => (h9.2.2.2.2.2.2 h5).1) h9.2.2.2.2.1 (fun j u hu => by obtain ⟨q, hq⟩ := hp j u hu; exact ih j u hu _ _ hq)
def RShowSaid (t : Vt) : Prop := ∀ (cs : List Value) (B : Nat) (w : World), IsV B w cs t → B ≤ w.heap.size → MayE t → wtV t ≤ 4194304 →
    Calls Tryz.prog 85 #[.agg cs.toArray] w fun e w' => e = .returned (.string (strOf (showV t))) ∧ Below w.heap.size w w'
theorem Sq52 {P : Prop} (h : P := by
 subst k6
 have HE := Lib.hid (show showV (.mk 6 b i s l ks) = [35, 110] ++ textOf i from by unfold showV; rfl)
 have hlt := textOf_len i
 rw [HE.out]
 have ha := fun u => add_of [35, 110] (textOf i) _ rfl u (by simp; omega) (r := [35, 110] ++ textOf i) rfl
 first
 | (guard_hyp z52b; have HT := Lib.hid (fun w => rtext_any i w HI64.out))
 | (have HT := Lib.hid (fun w => text_any i w HI64.out))
 clear HE
 generalize textOf i = x at *
 first
 | (guard_hyp z52a; go_enter Tryz.func179, Tryz.ntmps179)
 | (go_enter Tryz.func85, Tryz.ntmps85)
 go_wp2_with fail
 refine (HT.out _).mono ?_
 rintro e w1 ⟨rfl, hb1⟩
 have HB1 := Lib.hid hb1
 clear hb1
 have ha2 : ∀ u, (Op.stringOp .add ⟨#[35, 110]⟩ ⟨x.toArray⟩).run Tryz.prog u = .ok (.string (strOf ([35, 110] ++ x))) u := ha
 clear ha
 go_wp2_with fail
 go_ret
 exact ⟨rfl, below_step HB0.out rfl HB1.out⟩) : P := h
theorem Sq53 {P : Prop} (h : P := by
 subst k7
 have HE := Lib.hid (show showV (.mk 7 b i s l ks) = [35, 101] ++ textOf i from by unfold showV; rfl)
 have hlt := textOf_len i
 rw [HE.out]
 have ha := fun u => add_of [35, 101] (textOf i) _ rfl u (by simp; omega) (r := [35, 101] ++ textOf i) rfl
 first
 | (guard_hyp z53b; have HT := Lib.hid (fun w => rtext_any i w HI64.out))
 | (have HT := Lib.hid (fun w => text_any i w HI64.out))
 clear HE
 generalize textOf i = x at *
 first
 | (guard_hyp z53a; go_enter Tryz.func179, Tryz.ntmps179)
 | (go_enter Tryz.func85, Tryz.ntmps85)
 go_wp2_with fail
 refine (HT.out _).mono ?_
 rintro e w1 ⟨rfl, hb1⟩
 have HB1 := Lib.hid hb1
 clear hb1
 have ha2 : ∀ u, (Op.stringOp .add ⟨#[35, 101]⟩ ⟨x.toArray⟩).run Tryz.prog u = .ok (.string (strOf ([35, 101] ++ x))) u := ha
 clear ha
 go_wp2_with fail
 go_ret
 exact ⟨rfl, below_step HB0.out rfl HB1.out⟩) : P := h
theorem Sq54 {P : Prop} (h : P := by
 first
 |(
  guard_hyp z54a
  have hzb : (0 : Int) < j := by omega
  rw [if_neg hz] at hJ1
  have ha1 := fun u => add_of J [44, 32] ⟨#[44, 32]⟩ rfl u (by simp; omega) hJ1
  clear hJ1 hz)
 |(
  have hzb : ¬ (0 : Int) < j := by omega
  rw [if_pos hz] at hJ1
  subst hJ1
  clear hz)
 go_wp2_with fail
 refine wp_region_ext wr.heap.size (by kernel_rfl) (by kernel_rfl) ?_
 repeat (go_big_quiet_step (first | exact HCK.out _ | exact HCS.out _))
 refine wpQuiet_nil ?_
 intro w2 hw'
 have hb2 : Below wr.heap.size wr w2 := by obtain ⟨u, rfl⟩ := hw'; exact u.below
 clear hw' e4 e5 ek f0 f1 f2 f3 f4 f5
 have HB2 := Lib.hid hb2
 clear hb2
 go_wp2_with fail
 go_roundw
 case rel => exact ⟨j + 1, by go_num, by rw [HJ2.out], by omega, HBR.out.trans (HB2.out.mono hszr)⟩
 case measure => simp [intOf]; omega) : P := h
theorem Sq38 {P : Prop} (h : P := by
 have hlt' : ¬ (j : Int) < l.length := by omega
 first
 | (guard_hyp z38a; have hjn : j = l.length := by omega)
 | skip
 have HT := Lib.hid (show (shPartsV 5 ks l).take j = shPartsV 5 ks l from List.take_of_length_le (by have := HPN.out; omega))
 first
 |(
  guard_hyp z38a
  rw [HT.out] at hjw HO
  have HO9 : Hid (wr.ownsRow (w.heap.size + 1) 9 1 u3 (shPartsV 5 ks l).length (strsV (shPartsV 5 ks l))) := Lib.hid (by rw [HPN.out, ← hjn]; exact HO.out)
  have hJO := join_own HO9.out (by omega) (by rw [HPN.out]; omega))
 | (rw [HT.out] at hjw ⊢)
 obtain ⟨J, hJ⟩ := nam (jn (shPartsV 5 ks l))
 first
 | (guard_hyp z38a; rw [hJ] at hjw hJO)
 | (rw [hJ] at hjw ⊢)
 have HJ := Lib.hid hJ
 first
 |(
  guard_hyp z38a
  have HJO := Lib.hid hJO
  clear hJ hJO hjn)
 | (clear hJ)
 obtain ⟨Y1, hY1⟩ := nam ([123] ++ J)
 have hyl : Y1.length = J.length + 1 := by rw [← hY1]; simp
 have ha1 : ∀ u, (Op.stringOp .add ⟨#[123]⟩ (strOf J)).run Tryz.prog u = .ok (.string (strOf Y1)) u := fun u => add_of [123] J _ rfl u (by simp; omega) hY1
 have ha2 := fun u => add_of Y1 [125] ⟨#[125]⟩ rfl u (by simp; omega) (r := Y1 ++ [125]) rfl
 have HY1 := Lib.hid hY1
 clear hY1
 go_wp2_with fail
 first
 |(
  guard_hyp z38a
  refine HJO.out.mono ?_
  rintro e w5 ⟨rfl, hb5⟩
  have HB5 := Lib.hid hb5
  clear hb5
  go_wp2_with fail)
 | skip
 go_ret
 first
 | (guard_hyp z38a; exact ⟨str_ret (congrArg strOf (by rw [← HY1.out, ← HJ.out]; simp)), HB0.out.trans ((HBR.out.mono (by omega)).trans (HB5.out.mono (by omega)))⟩)
 | (exact ⟨str_ret (congrArg strOf (by rw [← HY1.out, ← HJ.out]; simp)), HB0.out.trans (HBR.out.mono (by omega))⟩)) : P := h
set_option maxRecDepth 1000000 in
set_option maxHeartbeats 4000000 in
theorem rshow_any (t : Vt) : RShowSaid t := by
 refine t.down (p := RShowSaid) fun k b i s l ks ih cs B w hV hB hM hw => ?_
 have HV0 := Lib.hid hV
 unfold IsV at hV
 obtain ⟨la, lc, ka, kc, rfl, hk64, hi64, ⟨hlc, hlm⟩, ⟨hkc, hkm⟩, hla, hka, hK, hL⟩ := hV
 have HI64 : Hid (In64 i) := Lib.hid hi64
 obtain ⟨hk0, hk7, hm5, hmM⟩ := hM.head
 have hss : s.size ≤ 4194304 := by have h := hw; simp only [wtV] at h; omega
 have hPL := jn_parts_len k b i s l ks
 have hpl := shPartsV_len (k := k) (ks := ks) (l := l) hm5
 have hwl : ∀ (j : Nat) t, l[j]? = some t → wtV t ≤ 4194304 := fun j t ht => by have h := hw; simp only [wtV] at h; have := wtVs_get ht; omega
 have hkl : ∀ (j : Nat) x, ks[j]? = some x → x.size ≤ 4194304 := fun j x hx => by have h := hw; simp only [wtV] at h; have := sum_get (fun k : ByteArray => k.size + 1) hx; omega
 have HKL := Lib.hid hkl
 have IH := Lib.hid (fun (j : Nat) t (ht : l[j]? = some t) cs B w h1 h2 => ih j t ht cs B w h1 h2 (hmM j t ht) (hwl j t ht))
 obtain ⟨HK, HLs, HPL, HPN, HW, HM5⟩ := hd6 hK hL hPL hpl hw hm5
 clear ih hK hL hla hka hwl hmM hM hi64 hk64 hm5 hPL hpl hkl hw
 show Calls Tryz.prog 85 #[.agg #[.int .i64 k, .bool b, .int .i64 i, .string s, .slice la l.length lc, .slice ka ks.length kc]] w _
 have HB0 := Lib.hid ((Below.refl w.heap.size w).alloc (Nat.le_refl _) (.cells #[.int .i64 k, .bool b, .int .i64 i, .string s, .slice la l.length lc, .slice ka ks.length kc] 33))
 have HBX := Lib.hid (Block.new w [.int .i64 k, .bool b, .int .i64 i, .string s, .slice la l.length lc, .slice ka ks.length kc] 33)
 by_cases k1 : k = 1
 ·subst k1
  cases b with
  | true =>
   have HE := Lib.hid (show showV (.mk 1 true i s l ks) = [116, 114, 117, 101] from by unfold showV; rfl)
   rw [HE.out]
   go_enter Tryz.func85, Tryz.ntmps85
   go_wp2_with fail
   go_ret
   exact ⟨rfl, HB0.out⟩
  | false =>
   have HE := Lib.hid (show showV (.mk 1 false i s l ks) = [102, 97, 108, 115, 101] from by unfold showV; rfl)
   rw [HE.out]
   go_enter Tryz.func85, Tryz.ntmps85
   go_wp2_with fail
   go_ret
   exact ⟨rfl, HB0.out⟩
 by_cases k2 : k = 2
 ·subst k2
  have HE := Lib.hid (show showV (.mk 2 b i s l ks) = textOf i from by unfold showV; rfl)
  rw [HE.out]
  go_enter Tryz.func85, Tryz.ntmps85
  go_wp2_with fail
  refine (rtext_any i _ HI64.out).mono ?_
  rintro e w1 ⟨rfl, hb1⟩
  go_wp2_with fail
  go_ret
  exact ⟨rfl, below_step HB0.out rfl hb1⟩
 by_cases k3 : k = 3
 ·subst k3
  have HE := Lib.hid (show showV (.mk 3 b i s l ks) = 39 :: (quoteL s.data.toList ++ [39]) from by unfold showV; rfl)
  rw [HE.out]
  go_enter Tryz.func85, Tryz.ntmps85
  go_wp2_with fail
  refine (rquote_any s _ (by omega)).mono ?_
  rintro e w1 ⟨rfl, hb1⟩
  go_wp2_with fail
  go_ret
  exact ⟨rfl, below_step HB0.out rfl hb1⟩
 by_cases k6 : k = 6
 ·have z52b := trivial
  exact Sq52
 by_cases k7 : k = 7
 ·have z53b := trivial
  exact Sq53
 by_cases k4 : k = 4
 ·subst k4
  have HE := Lib.hid (show showV (.mk 4 b i s l ks) = [91] ++ jn (shPartsV 4 ks l) ++ [93] from by unfold showV; rfl)
  rw [HE.out]
  clear HE
  go_enter Tryz.func85, Tryz.ntmps85
  go_wp2_with fail
  go_loopw [3, 4] (fun sv iv wr => ∃ (j : Nat), iv = .int .i64 j ∧ sv = .string (strOf (jn ((shPartsV 4 ks l).take j))) ∧ j ≤ l.length ∧ Below (w.heap.size + 1) (w.alloc (.cells #[.int .i64 4, .bool b, .int .i64 i, .string s, .slice la l.length lc, .slice ka ks.length kc] 33)) wr) (fun _ iv _ => l.length - (intOf iv).toNat)
  case atStart => exact ⟨0, rfl, rfl, Nat.zero_le _, Below.refl _ _⟩
  case round =>
   obtain ⟨j, rfl, rfl, hj, hbr⟩ := hrel
   have hBR := HBX.out.below hbr (by simp)
   have y4 := hBR.cell (i := 4) rfl
   have y5 := hBR.cell (i := 5) rfl
   have HBK := Lib.hid hBR
   clear hBR
   have HBR := Lib.hid hbr
   clear hbr
   have hst : jn ((shPartsV 4 ks l).take j) = jn ((shPartsV 4 ks l).take j) := rfl
   have hjl := jn_len ((shPartsV 4 ks l).take j)
   have hjs := sum_take (shPartsV 4 ks l) j
   have hjw : (jn ((shPartsV 4 ks l).take j)).length ≤ 134217728 := by have h1 := HPL.out; have h2 := HW.out; omega
   clear hjl hjs hst
   by_cases hlt : j < l.length
   ·have hlt' : (j : Int) < l.length := by omega
    obtain ⟨t, ht⟩ := get_some hlt
    obtain ⟨eb, eo, cs, rfl, heb, hce, hVt⟩ := HLs.out.get j t ht
    have hbw : Below w.heap.size w wr := HB0.out.trans (HBR.out.mono (by omega))
    have hszr : w.heap.size + 1 ≤ wr.heap.size := Nat.le_trans (by simp) HBR.out.size
    have hIt : ∀ w', Below wr.heap.size wr w' → IsV B w' cs t := fun w' hb => IsV.below (hbw.trans (hb.mono (by omega))) hB t cs hVt
    have hszB : B ≤ wr.heap.size := by omega
    have HI := Lib.hid (fun w' (hb : Below wr.heap.size wr w') => IH.out j t ht cs B w' (hIt w' hb) (Nat.le_trans hszB hb.size))
    have hsl := showV_len t
    have hwt : wtV t ≤ 4194304 := by have h1 := wtVs_get ht; have h2 := HW.out; simp only [wtV] at h2; omega
    have g : ∀ (n : Nat) v, cs[n]? = some v → wr.cell? ⟨eb, eo + j * 6 + n, none⟩ = some v := fun n v hv => by
     have h1 := hce n v hv
     rw [Nat.zero_add] at h1
     rw [Nat.add_assoc, hbw.cell (by show eb < w.heap.size; omega)]
     exact h1
    have hsn : showV t = showV t := rfl
    clear hIt hbw hsn
    have hsnoc := jn_snoc ((shPartsV 4 ks l).take j) (showV t)
    rw [← (show (shPartsV 4 ks l).take (j + 1) = (shPartsV 4 ks l).take j ++ [showV t] from showVs_take ht)] at hsnoc
    have hnil : (shPartsV 4 ks l).take j = [] ↔ j = 0 := by
     have h1 := HPN.out
     rw [List.take_eq_nil_iff]
     constructor
     ·rintro (h | h)
      ·exact h
      ·rw [h] at h1; simp at h1; omega
     ·exact .inl
    obtain ⟨X, hX⟩ := nam (showV t)
    rw [hX] at HI hsl
    have HXV := Lib.hid hX
    clear hX
    obtain ⟨k2, b2, i2, s2, l2, ks2⟩ := t
    unfold IsV at hVt
    obtain ⟨la2, lc2, ka2, kc2, rfl, -⟩ := hVt
    have g0 := g 0 _ rfl
    have g1 := g 1 _ rfl
    have g2 := g 2 _ rfl
    have g3 := g 3 _ rfl
    have g4 := g 4 _ rfl
    have g5 := g 5 _ rfl
    rw [Nat.add_zero] at g0
    clear g hce
    have HI0 := Lib.hid (HI.out wr (Below.refl _ _))
    have p0 : (0 : Int) ≤ (j : Int) := by omega
    rw [HXV.out] at hsnoc
    have hJ0 : j = 0 → jn ((shPartsV 4 ks l).take j) = [] := fun h => by rw [h]; rfl
    obtain ⟨J2, hJ2⟩ := nam (jn ((shPartsV 4 ks l).take (j + 1)))
    rw [hJ2] at hsnoc
    have HJ2 := Lib.hid hJ2
    clear hJ2
    generalize jn ((shPartsV 4 ks l).take j) = J at *
    by_cases hz : j = 0
    ·have hzb : ¬ (0 : Int) < j := by omega
     rw [if_pos (hnil.2 hz)] at hsnoc
     have HSN := Lib.hid hsnoc
     have HJ0 : Hid (J ++ X = J2) := Lib.hid (by rw [HSN.out, hJ0 hz]; rfl)
     clear hsnoc hnil hz hJ0
     have ha := fun u => add_of J X _ rfl u (by omega) HJ0.out
     go_wp2_with fail
     refine HI0.out.mono ?_
     rintro e w2 ⟨rfl, hb2⟩
     have HB2 := Lib.hid hb2
     clear hb2
     go_wp2_with fail
     go_roundw
     case rel => exact ⟨j + 1, by go_num, by rw [HJ2.out], by omega, HBR.out.trans (HB2.out.mono hszr)⟩
     case measure => simp [intOf]; omega
    ·have hzb : (0 : Int) < j := by omega
     rw [if_neg (fun h => hz (hnil.1 h))] at hsnoc
     have HSN := Lib.hid hsnoc
     clear hsnoc hnil hz hJ0
     obtain ⟨J1, hJ1⟩ : ∃ J1, J ++ [44, 32] = J1 := ⟨_, rfl⟩
     have hJ1l : J1.length = J.length + 2 := by rw [← hJ1]; simp
     have ha1 := fun u => add_of J [44, 32] ⟨#[44, 32]⟩ rfl u (by simp; omega) hJ1
     have ha2 := fun u => add_of J1 X _ rfl u (by omega) (show J1 ++ X = J2 from by rw [HSN.out, ← hJ1])
     clear hJ1
     go_wp2_with fail
     refine HI0.out.mono ?_
     rintro e w2 ⟨rfl, hb2⟩
     have HB2 := Lib.hid hb2
     clear hb2
     go_wp2_with fail
     go_roundw
     case rel => exact ⟨j + 1, by go_num, by rw [HJ2.out], by omega, HBR.out.trans (HB2.out.mono hszr)⟩
     case measure => simp [intOf]; omega
   ·have hlt' : ¬ (j : Int) < l.length := by omega
    have HT := Lib.hid (show (shPartsV 4 ks l).take j = shPartsV 4 ks l from List.take_of_length_le (by have := HPN.out; omega))
    rw [HT.out] at hjw ⊢
    obtain ⟨J, hJ⟩ := nam (jn (shPartsV 4 ks l))
    rw [hJ] at hjw ⊢
    have HJ := Lib.hid hJ
    clear hJ
    obtain ⟨Y1, hY1⟩ := nam ([91] ++ J)
    have hyl : Y1.length = J.length + 1 := by rw [← hY1]; simp
    have ha1 : ∀ u, (Op.stringOp .add ⟨#[91]⟩ (strOf J)).run Tryz.prog u = .ok (.string (strOf Y1)) u := fun u => add_of [91] J _ rfl u (by simp; omega) hY1
    have ha2 := fun u => add_of Y1 [93] ⟨#[93]⟩ rfl u (by simp; omega) (r := Y1 ++ [93]) rfl
    have HY1 := Lib.hid hY1
    clear hY1
    go_wp2_with fail
    go_ret
    exact ⟨str_ret (congrArg strOf (by rw [← HY1.out, ← HJ.out]; simp)), HB0.out.trans (HBR.out.mono (by omega))⟩
 by_cases k5 : k = 5
 ·subst k5
  have HE := Lib.hid (show showV (.mk 5 b i s l ks) = [123] ++ jn (shPartsV 5 ks l) ++ [125] from by unfold showV; rfl)
  have HN5 := Lib.hid (HM5.out rfl)
  rw [HE.out]
  clear HE
  go_enter Tryz.func85, Tryz.ntmps85
  go_wp2_with fail
  go_loopw [5, 6] (fun sv iv wr => ∃ (j : Nat), iv = .int .i64 j ∧ sv = .string (strOf (jn ((shPartsV 5 ks l).take j))) ∧ j ≤ l.length ∧ Below (w.heap.size + 1) (w.alloc (.cells #[.int .i64 5, .bool b, .int .i64 i, .string s, .slice la l.length lc, .slice ka ks.length kc] 33)) wr) (fun _ iv _ => l.length - (intOf iv).toNat)
  case atStart => exact ⟨0, rfl, rfl, Nat.zero_le _, Below.refl _ _⟩
  case round =>
   obtain ⟨j, rfl, rfl, hj, hbr⟩ := hrel
   have hBR := HBX.out.below hbr (by simp)
   have y4 := hBR.cell (i := 4) rfl
   have y5 := hBR.cell (i := 5) rfl
   have HBK := Lib.hid hBR
   clear hBR
   have HBR := Lib.hid hbr
   clear hbr
   have hst : jn ((shPartsV 5 ks l).take j) = jn ((shPartsV 5 ks l).take j) := rfl
   have hjl := jn_len ((shPartsV 5 ks l).take j)
   have hjs := sum_take (shPartsV 5 ks l) j
   have hjw : (jn ((shPartsV 5 ks l).take j)).length ≤ 134217728 := by have h1 := HPL.out; have h2 := HW.out; omega
   clear hjl hjs hst
   by_cases hlt : j < l.length
   ·have hlt' : (j : Int) < l.length := by omega
    obtain ⟨t, ht⟩ := get_some hlt
    obtain ⟨eb, eo, cs, rfl, heb, hce, hVt⟩ := HLs.out.get j t ht
    have hbw : Below w.heap.size w wr := HB0.out.trans (HBR.out.mono (by omega))
    have hszr : w.heap.size + 1 ≤ wr.heap.size := Nat.le_trans (by simp) HBR.out.size
    have hIt : ∀ w', Below wr.heap.size wr w' → IsV B w' cs t := fun w' hb => IsV.below (hbw.trans (hb.mono (by omega))) hB t cs hVt
    have hszB : B ≤ wr.heap.size := by omega
    have HI := Lib.hid (fun w' (hb : Below wr.heap.size wr w') => IH.out j t ht cs B w' (hIt w' hb) (Nat.le_trans hszB hb.size))
    have hsl := showV_len t
    have hwt : wtV t ≤ 4194304 := by have h1 := wtVs_get ht; have h2 := HW.out; simp only [wtV] at h2; omega
    have g : ∀ (n : Nat) v, cs[n]? = some v → wr.cell? ⟨eb, eo + j * 6 + n, none⟩ = some v := fun n v hv => by
     have h1 := hce n v hv
     rw [Nat.zero_add] at h1
     rw [Nat.add_assoc, hbw.cell (by show eb < w.heap.size; omega)]
     exact h1
    have hsn : showV t = showV t := rfl
    clear hIt hbw hsn
    have hltk : j < ks.length := by have := HN5.out; omega
    have hltk' : (j : Int) < ks.length := by omega
    obtain ⟨x, hx⟩ := get_some hltk
    have hxs := HKL.out j x hx
    have hKr : StrRow B wr ka ks := HK.out.below (HB0.out.trans (HBR.out.mono (by omega))) hB
    rcases hKr with h0 | ⟨kb, ko, rfl, hkb, hkc'⟩
    ·exfalso; rw [List.map_eq_nil_iff] at h0; rw [h0] at hltk; simp at hltk
    have gk : wr.cell? ⟨kb, ko + j, none⟩ = some (.string x) := hkc' j _ (by rw [List.getElem?_map, hx]; rfl)
    have hsnoc := jn_snoc ((shPartsV 5 ks l).take j) (keyL x.data.toList ++ [58, 32] ++ showV t)
    rw [← (show (shPartsV 5 ks l).take (j + 1) = (shPartsV 5 ks l).take j ++ [keyL x.data.toList ++ [58, 32] ++ showV t] from withKeys_take ht hx)] at hsnoc
    have hnil : (shPartsV 5 ks l).take j = [] ↔ j = 0 := by
     have h1 := HPN.out
     rw [List.take_eq_nil_iff]
     constructor
     ·rintro (h | h)
      ·exact h
      ·rw [h] at h1; simp at h1; omega
     ·exact .inl
    have hkyl := keyL_len x.data.toList
    have hxl : x.data.toList.length = x.size := by simp
    rw [hxl] at hkyl
    have HKY := Lib.hid (fun w => rkey_any x w (by omega))
    clear hx hxl hkc'
    obtain ⟨X, hX⟩ := nam (showV t)
    rw [hX] at HI hsl
    have HXV := Lib.hid hX
    clear hX
    obtain ⟨k2, b2, i2, s2, l2, ks2⟩ := t
    unfold IsV at hVt
    obtain ⟨la2, lc2, ka2, kc2, rfl, -⟩ := hVt
    have g0 := g 0 _ rfl
    have g1 := g 1 _ rfl
    have g2 := g 2 _ rfl
    have g3 := g 3 _ rfl
    have g4 := g 4 _ rfl
    have g5 := g 5 _ rfl
    rw [Nat.add_zero] at g0
    clear g hce
    have HI0 := Lib.hid (HI.out wr (Below.refl _ _))
    have p0 : (0 : Int) ≤ (j : Int) := by omega
    rw [HXV.out] at hsnoc
    generalize keyL x.data.toList = KY at *
    have hJ0 : j = 0 → jn ((shPartsV 5 ks l).take j) = [] := fun h => by rw [h]; rfl
    obtain ⟨J2, hJ2⟩ := nam (jn ((shPartsV 5 ks l).take (j + 1)))
    rw [hJ2] at hsnoc
    have HJ2 := Lib.hid hJ2
    clear hJ2
    generalize jn ((shPartsV 5 ks l).take j) = J at *
    obtain ⟨J1, hJ1, hJ1l⟩ : ∃ J1, (if j = 0 then J else J ++ [44, 32]) = J1 ∧ J1.length ≤ J.length + 2 := ⟨_, rfl, by split <;> simp⟩
    obtain ⟨Z1, hZ1⟩ := nam (J1 ++ KY)
    obtain ⟨Z2, hZ2⟩ : ∃ Z2, Z1 ++ [58, 32] = Z2 := ⟨_, rfl⟩
    have hz1l : Z1.length = J1.length + KY.length := by rw [← hZ1]; simp
    have hz2l : Z2.length = Z1.length + 2 := by rw [← hZ2]; simp
    have hZ3 : Z2 ++ X = J2 := by
     rw [hsnoc, ← hZ2, ← hZ1, ← hJ1]
     by_cases hz : j = 0
     ·rw [if_pos (hnil.2 hz), if_pos hz, hJ0 hz]; simp
     ·rw [if_neg (fun h => hz (hnil.1 h)), if_neg hz]; simp
    have ha2 := fun u => add_of J1 KY _ rfl u (by omega) hZ1
    have ha3 := fun u => add_of Z1 [58, 32] ⟨#[58, 32]⟩ rfl u (by simp; omega) hZ2
    have ha4 := fun u => add_of Z2 X _ rfl u (by omega) hZ3
    clear hsnoc hnil hJ0 hZ1 hZ2 hZ3
    have hwr := hszr
    have b4 := HBK.out.lt
    have e4 : ∀ u : Ext wr.heap.size wr, u.w.cell? ⟨w.heap.size, 4, none⟩ = some (.slice (some ⟨eb, eo, none⟩) l.length lc) := fun u => u.cell b4 y4
    have e5 : ∀ u : Ext wr.heap.size wr, u.w.cell? ⟨w.heap.size, 5, none⟩ = some (.slice (some ⟨kb, ko, none⟩) ks.length kc) := fun u => u.cell b4 y5
    have ek : ∀ u : Ext wr.heap.size wr, u.w.cell? ⟨kb, ko + j, none⟩ = some (.string x) := fun u => u.cell (show kb < wr.heap.size from by omega) gk
    have f0 : ∀ u : Ext wr.heap.size wr, u.w.cell? ⟨eb, eo + j * 6, none⟩ = _ := fun u => u.cell (show eb < wr.heap.size from by omega) g0
    have f1 : ∀ u : Ext wr.heap.size wr, u.w.cell? ⟨eb, eo + j * 6 + 1, none⟩ = _ := fun u => u.cell (show eb < wr.heap.size from by omega) g1
    have f2 : ∀ u : Ext wr.heap.size wr, u.w.cell? ⟨eb, eo + j * 6 + 2, none⟩ = _ := fun u => u.cell (show eb < wr.heap.size from by omega) g2
    have f3 : ∀ u : Ext wr.heap.size wr, u.w.cell? ⟨eb, eo + j * 6 + 3, none⟩ = _ := fun u => u.cell (show eb < wr.heap.size from by omega) g3
    have f4 : ∀ u : Ext wr.heap.size wr, u.w.cell? ⟨eb, eo + j * 6 + 4, none⟩ = _ := fun u => u.cell (show eb < wr.heap.size from by omega) g4
    have f5 : ∀ u : Ext wr.heap.size wr, u.w.cell? ⟨eb, eo + j * 6 + 5, none⟩ = _ := fun u => u.cell (show eb < wr.heap.size from by omega) g5
    clear g0 g1 g2 g3 g4 g5 gk
    have HCK : Hid (∀ u : Ext wr.heap.size wr, _) := Lib.hid (fun u : Ext wr.heap.size wr => ext_call u (Nat.le_refl _) (HKY.out u.w))
    have HCS : Hid (∀ u : Ext wr.heap.size wr, _) := Lib.hid (fun u : Ext wr.heap.size wr => ext_call u (Nat.le_refl _) (HI.out u.w u.below))
    by_cases hz : j = 0
    ·exact Sq54
    ·have z54a := trivial
     exact Sq54
   ·exact Sq38
 have k0 : k = 0 := by omega
 subst k0
 have HE := Lib.hid (show showV (.mk 0 b i s l ks) = [110, 117, 108, 108] from by unfold showV; rfl)
 rw [HE.out]
 go_enter Tryz.func85, Tryz.ntmps85
 go_wp2_with fail
 go_ret
 exact ⟨rfl, HB0.out⟩
end Go.Proofs.YtndhpdclpgemfaaGreat
namespace Go.Proofs.YtndhpdclpgemfaaGreat
open Go.RowKit
set_option linter.unusedVariables false
theorem sg_2 {l : List UInt8} (h1 : 194 ≤ nb l 0) (h2 : nb l 0 < 224) (h3 : tl l 1 = true) : sg l = 2 := by
 have := (tl_true.1 h3).1
 unfold sg
 rw [if_neg (by omega), if_neg (by omega), if_neg (by rw [h3]; simp; omega), if_pos h2]
theorem sg_3 {l : List UInt8} (h1 : 224 ≤ nb l 0) (h2 : nb l 0 < 240) (h3 : tl l 1 = true) (h4 : tl l 2 = true) (h5 : ¬ (nb l 0 = 224 ∧ nb l 1 < 160)) (h6 : ¬ (nb l 0 = 237 ∧ 160 ≤ nb l 1)) : sg l = 3 := by
 have := (tl_true.1 h3).1
 unfold sg
 rw [if_neg (by omega), if_neg (by omega), if_neg (by rw [h3]; simp; omega), if_neg (by omega), if_neg (by rw [h4]; simp only [Bool.true_eq_false, false_or]; omega), if_pos h2]
theorem sg_4 {l : List UInt8} (h1 : 240 ≤ nb l 0) (h2 : nb l 0 ≤ 244) (h3 : tl l 1 = true) (h4 : tl l 2 = true) (h7 : tl l 3 = true) (h5 : ¬ (nb l 0 = 240 ∧ nb l 1 < 144)) (h6 : ¬ (nb l 0 = 244 ∧ 144 ≤ nb l 1)) : sg l = 4 := by
 have := (tl_true.1 h3).1
 unfold sg
 rw [if_neg (by omega), if_neg (by omega), if_neg (by rw [h3]; simp; omega), if_neg (by omega), if_neg (by rw [h4]; simp only [Bool.true_eq_false, false_or]; omega), if_neg (by omega), if_neg (by rw [h7]; simp only [Bool.true_eq_false, false_or]; omega)]
theorem nb_take (l r : List UInt8) (n k : Nat) (h : k < n) (hn : n ≤ l.length) : nb (l.take n ++ r) k = nb l k := by
 unfold nb
 rw [List.getElem?_append_left (by rw [List.length_take]; omega), List.getElem?_take, if_pos h]
theorem tl_take (l r : List UInt8) (n k : Nat) (h : k < n) (hn : n ≤ l.length) (ht : 128 ≤ nb l k ∧ nb l k < 192) : tl (l.take n ++ r) k = true := by
 rw [tl_true, nb_take l r n k h hn, List.length_append, List.length_take]
 exact ⟨by omega, ht⟩
theorem sg_take {l : List UInt8} (r : List UInt8) (h : sg l ≠ 0) : sg (l.take (sg l) ++ r) = sg l := by
 obtain ⟨f2, f3, f4⟩ := sg_facts (l := l)
 have hle := sg_le (l := l)
 have hc : sg l = 1 ∨ sg l = 2 ∨ sg l = 3 ∨ sg l = 4 := by omega
 have n0 : nb (l.take (sg l) ++ r) 0 = nb l 0 := nb_take l r _ 0 (by omega) hle.2
 rcases hc with e | e | e | e
 ·have h1 := (sg_one.1 e).2
  rw [e] at n0 hle ⊢
  exact sg_one.2 ⟨by rw [List.length_append, List.length_take]; omega, by omega⟩
 ·have h1 := f2 e
  rw [e] at n0 hle ⊢
  exact sg_2 (by omega) (by omega) (tl_take l r 2 1 (by omega) hle.2 h1.2.2)
 ·have h1 := f3 e
  rw [e] at n0 hle ⊢
  have n1 := nb_take l r 3 1 (by omega) hle.2
  exact sg_3 (by omega) (by omega) (tl_take l r 3 1 (by omega) hle.2 h1.2.2.1) (tl_take l r 3 2 (by omega) hle.2 h1.2.2.2.1) (by rw [n0, n1]; exact h1.2.2.2.2.1) (by rw [n0, n1]; exact h1.2.2.2.2.2)
 ·have h1 := f4 e
  rw [e] at n0 hle ⊢
  have n1 := nb_take l r 4 1 (by omega) hle.2
  exact sg_4 (by omega) (by omega) (tl_take l r 4 1 (by omega) hle.2 h1.2.2.1) (tl_take l r 4 2 (by omega) hle.2 h1.2.2.2.1) (tl_take l r 4 3 (by omega) hle.2 h1.2.2.2.2.1) (by rw [n0, n1]; exact h1.2.2.2.2.2.1) (by rw [n0, n1]; exact h1.2.2.2.2.2.2)
theorem hexd_all : ∀ k : Fin 16, hexv (hxd k.val).toNat = k.val ∧ 48 ≤ (hxd k.val).toNat ∧ (hxd k.val).toNat < 127 := by decide
theorem hexd (k : Nat) (h : k < 16) : hexv (hxd k).toNat = k ∧ 48 ≤ (hxd k).toNat ∧ (hxd k).toNat < 127 := hexd_all ⟨k, h⟩
def ncharB (c : UInt8) : Bool := nchar c.toNat
theorem nameB_all {l : List UInt8} (h : nameB l = true) : l.all ncharB = true ∧ ∃ c t, l = c :: t ∧ letter c.toNat = true := by
 have := of_decide_eq_true h
 obtain ⟨h1, h2, h3, h4⟩ := this
 constructor
 ·rw [List.all_eq_true]
  intro c hc
  obtain ⟨i, hi, he⟩ := List.getElem_of_mem hc
  have := h4 i hi
  unfold nb at this
  rw [List.getElem?_eq_getElem hi, he] at this
  exact this
 ·cases l with
  | nil => simp at h1
  | cons c t => exact ⟨c, t, rfl, h3⟩
def Laid (t : Vt) : Prop := ∃ B w cs, IsV B w cs t
theorem Laid.head {k : Int} {b : Bool} {i : Int} {s : ByteArray} {l : List Vt} {ks : List ByteArray} (h : Laid (.mk k b i s l ks)) : In64 i ∧ ∀ (j : Nat) u, l[j]? = some u → Laid u := by
 obtain ⟨B, w, cs, h⟩ := h
 unfold IsV at h
 obtain ⟨la, lc, ka, kc, -, -, h2, -, -, -, -, -, hL⟩ := h
 exact ⟨h2, fun j u hu => by obtain ⟨_, _, cs', _, _, _, hV⟩ := hL.get j u hu; exact ⟨_, _, cs', hV⟩⟩
theorem MayE.unused {k : Int} {b : Bool} {i : Int} {s : ByteArray} {l : List Vt} {ks : List ByteArray} (h : MayE (.mk k b i s l ks)) : unusedV k b i s l.length ks.length = true := by
 cases h with
 | mk _ _ _ _ _ _ h1 h2 h3 h4 h5 => exact h4
end Go.Proofs.YtndhpdclpgemfaaGreat
namespace Go.Proofs.YtndhpdclpgemfaaGreat
open Go.RowKit Go.Shelf
set_option linter.unusedSimpArgs false
set_option linter.unusedVariables false
def twosL : List (List UInt8) := [[60, 61], [62, 61], [60, 62]]
def signsL : List (List UInt8) := [[40], [41], [91], [93], [123], [125], [44], [58], [46], [43], [45], [42], [47], [37], [61], [60], [62], [36]]
def signL (r : List UInt8) : List UInt8 := if r.take 2 ∈ twosL then r.take 2 else if r.take 1 ∈ signsL then r.take 1 else []
def signsK : ByteArray := { data := #[40, 41, 91, 93, 123, 125, 44, 58, 46, 43, 45, 42, 47, 37, 61, 60, 62, 36] }
theorem twosL_len : ∀ l ∈ twosL, l.length = 2 := by decide
end Go.Proofs.YtndhpdclpgemfaaGreat

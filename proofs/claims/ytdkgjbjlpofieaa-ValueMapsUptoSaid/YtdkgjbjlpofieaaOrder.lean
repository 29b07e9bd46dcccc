/- Layer 3: the contract of value.Order, over trees. Conditions: both values may be. -/
import Derived.Test.YtdkgjbjlpofieaaOrd
import Derived.StillTailTactics
import Derived.Deep.RegionHeld3
namespace Go.Proofs.Ytdkgjbjlpofieaa
open Go.RowKit
set_option linter.unusedSimpArgs false
set_option linter.unusedVariables false

theorem wp_still_tail' {P : Program} {id : Nat} {Q : Exit → Act → World → Prop} {a : Act} {w : World} {l : List Oper} (n : Nat) (hm : P.follows .mixedOrders = true) (hB : Region.lexTailB .any l.toArray n = true)
    (h : ∀ w2, Below w.heap.size w w2 ∧ w2.heap = w.heap → wpStill P l.toArray w2 (fun a' => wpList P l.toArray Q (l.drop n) a' w2) (l.take n) a) : (Code.region id l.toArray true).wp P Q a w :=
  wp_region_still_tail n hm hB (h w.drew ⟨(Below.refl _ _).drew, rfl⟩)
theorem and7 {k : Int} (h0 : 0 ≤ k) (h7 : k ≤ 7) : bits .and .i64 k 7 = k := by
  have hk : k = 0 ∨ k = 1 ∨ k = 2 ∨ k = 3 ∨ k = 4 ∨ k = 5 ∨ k = 6 ∨ k = 7 := by omega
  rcases hk with rfl | rfl | rfl | rfl | rfl | rfl | rfl | rfl
  all_goals decide
theorem calls_turn {P : Program} {f : FuncId} {args : Array Value} {w : World} {v : Value} (h : Calls P f args w fun e w' => e = .returned v ∧ w = w') : Calls P f args w fun e w' => e = .returned v ∧ w' = w :=
  h.mono fun _ _ ⟨he, hm⟩ => ⟨he, hm.symm⟩
def bn (b : Bool) : Int := if b then 1 else 0
mutual
/-- What value.Order gives. -/
def ordV : Vt → Vt → Int
  | .mk k b i s l ks, .mk k' b' i' s' l' ks' => if k = k' then firstI [ordVs (k == 5) l l' ks ks', cmpI l.length l'.length, cmpI (bn b) (bn b'), cmpI i i', cmpS s s'] else cmpI (placeI k) (placeI k')
def ordVs (m : Bool) : List Vt → List Vt → List ByteArray → List ByteArray → Int
  | [], _, _, _ => 0
  | t :: ts, us, ks, ms => match us with
    | [] => 0
    | u :: us => firstI [if m then cmpS (ks.headD ⟨#[]⟩) (ms.headD ⟨#[]⟩) else 0, ordV t u, ordVs m ts us ks.tail ms.tail]
end
theorem ordVs_at {m : Bool} {l l' : List Vt} {j : Nat} {t u : Vt} (ks ms : List ByteArray) (h : l[j]? = some t) (h' : l'[j]? = some u) :
    ordVs m (l.drop j) (l'.drop j) (ks.drop j) (ms.drop j) = firstI [if m then cmpS ((ks.drop j).headD ⟨#[]⟩) ((ms.drop j).headD ⟨#[]⟩) else 0, ordV t u, ordVs m (l.drop (j + 1)) (l'.drop (j + 1)) (ks.drop (j + 1)) (ms.drop (j + 1))] := by
  obtain ⟨h1, h2⟩ := List.getElem?_eq_some_iff.1 h
  obtain ⟨h3, h4⟩ := List.getElem?_eq_some_iff.1 h'
  rw [List.drop_eq_getElem_cons h1, h2, List.drop_eq_getElem_cons h3, h4, ordVs]
  simp [List.tail_drop]
theorem ordVs_end {m : Bool} {l l' : List Vt} {j : Nat} (ks ms : List ByteArray) (h : ¬ (j < l.length ∧ j < l'.length)) : ordVs m (l.drop j) (l'.drop j) ks ms = 0 := by
  by_cases h1 : j < l.length
  · have h2 : l'.length ≤ j := by omega
    rw [List.drop_eq_getElem_cons h1, List.drop_of_length_le h2, ordVs]
  · rw [List.drop_of_length_le (by omega), ordVs]
theorem first3 (c x r : Int) : firstI [c, x, r] = if firstI [c, x] = 0 then r else firstI [c, x] := by
  unfold firstI firstI firstI firstI
  by_cases hc : c = 0
  · rw [if_pos hc, if_pos hc]
    by_cases hx : x = 0
    · rw [if_pos hx, if_pos hx, if_pos rfl]; by_cases hr : r = 0 <;> simp [hr]
    · rw [if_neg hx, if_neg hx, if_neg hx]
  · rw [if_neg hc, if_neg hc, if_neg hc]
theorem head_drop {ks : List ByteArray} {j : Nat} {x : ByteArray} (h : ks[j]? = some x) : (ks.drop j).headD ⟨#[]⟩ = x := by
  obtain ⟨h1, h2⟩ := List.getElem?_eq_some_iff.1 h
  rw [List.drop_eq_getElem_cons h1, h2]; rfl
theorem first2_any (c x : Int) (b n : Nat) (w : World) (h0 : w.cell? ⟨b, 0, none⟩ = some (.int .i64 c)) (h1 : w.cell? ⟨b, 1, none⟩ = some (.int .i64 x)) :
    Calls Try.prog 38 #[.slice (some ⟨b, 0, none⟩) 2 n] w fun e w' => e = .returned (.int .i64 (firstI [c, x])) ∧ w = w' :=
  first_any [c, x] b n w (fun j y hy => by
    match j, hy with
    | 0, hy => cases hy; exact h0
    | 1, hy => cases hy; exact h1) (by simp)
theorem first4_any (c x y z : Int) (b n : Nat) (w : World) (h0 : w.cell? ⟨b, 0, none⟩ = some (.int .i64 c)) (h1 : w.cell? ⟨b, 1, none⟩ = some (.int .i64 x)) (h2 : w.cell? ⟨b, 2, none⟩ = some (.int .i64 y)) (h3 : w.cell? ⟨b, 3, none⟩ = some (.int .i64 z)) :
    Calls Try.prog 38 #[.slice (some ⟨b, 0, none⟩) 4 n] w fun e w' => e = .returned (.int .i64 (firstI [c, x, y, z])) ∧ w = w' :=
  first_any [c, x, y, z] b n w (fun j v hv => by
    match j, hv with
    | 0, hv => cases hv; exact h0
    | 1, hv => cases hv; exact h1
    | 2, hv => cases hv; exact h2
    | 3, hv => cases hv; exact h3) (by simp)
def OrdSaid (a : Vt) : Prop := ∀ (b : Vt) (cs ds : List Value) (B : Nat) (w : World) (d d' : Int) (p p' : Nat), IsV B w cs a → IsV B w ds b → B ≤ w.heap.size → (mayV a d p).2 = true → (mayV b d' p').2 = true →
    Calls Try.prog 17 #[.agg cs.toArray, .agg ds.toArray] w fun e w' => e = .returned (.int .i64 (ordV a b)) ∧ Below w.heap.size w w'
set_option maxRecDepth 1000000 in
set_option maxHeartbeats 4000000 in
theorem order_any (a : Vt) : OrdSaid a := by
  refine a.down (p := OrdSaid) fun k b i s l ks ih a2 cs ds B w d d' p p' hV hV' hB hmay hmay' => ?_
  obtain ⟨k', b', i', s', l', ks'⟩ := a2
  unfold IsV at hV hV'
  obtain ⟨la, lc, ka, kc, rfl, -, -, ⟨hlc, hlm⟩, ⟨hkc, hkm⟩, -, -, hK, hL⟩ := hV
  obtain ⟨la', lc', ka', kc', rfl, -, -, ⟨hlc', hlm'⟩, ⟨hkc', hkm'⟩, -, -, hK', hL'⟩ := hV'
  obtain ⟨q1, q2, q3, q4, q5, q6, heq, hhead, hsub⟩ := mayV_parts hmay
  obtain ⟨rfl, rfl, rfl, rfl, rfl, rfl⟩ : q1 = k ∧ q2 = b ∧ q3 = i ∧ q4 = s ∧ q5 = l ∧ q6 = ks := by cases heq; exact ⟨rfl, rfl, rfl, rfl, rfl, rfl⟩
  obtain ⟨r1, r2, r3, r4, r5, r6, heq', hhead', hsub'⟩ := mayV_parts hmay'
  obtain ⟨rfl, rfl, rfl, rfl, rfl, rfl⟩ : r1 = k' ∧ r2 = b' ∧ r3 = i' ∧ r4 = s' ∧ r5 = l' ∧ r6 = ks' := by cases heq'; exact ⟨rfl, rfl, rfl, rfl, rfl, rfl⟩
  have hk7 : 0 ≤ q1 ∧ q1 ≤ 7 := by have := of_decide_eq_true hhead; exact ⟨this.2.2.1, this.2.2.2.1⟩
  have hk7' : 0 ≤ r1 ∧ r1 ≤ 7 := by have := of_decide_eq_true hhead'; exact ⟨this.2.2.1, this.2.2.2.1⟩
  have IH := Lib.hid ih
  have HLs := Lib.hid hL
  have HLs' := Lib.hid hL'
  have HKs := Lib.hid hK
  have HKs' := Lib.hid hK'
  have HSUB := Lib.hid hsub
  have HSUB' := Lib.hid hsub'
  have HHD := Lib.hid hhead
  have HHD' := Lib.hid hhead'
  clear ih hL hL' hK hK' hsub hsub' hhead hhead' heq heq' hmay hmay'
  show Calls Try.prog 17 #[.agg #[.int .i64 q1, .bool q2, .int .i64 q3, .string q4, .slice la q5.length lc, .slice ka q6.length kc], .agg #[.int .i64 r1, .bool r2, .int .i64 r3, .string r4, .slice la' r5.length lc', .slice ka' r6.length kc']] w _
  have HB0 := Lib.hid (((Below.refl w.heap.size w).alloc (Nat.le_refl _) (.cells #[.int .i64 q1, .bool q2, .int .i64 q3, .string q4, .slice la q5.length lc, .slice ka q6.length kc] 26)).alloc (by simp) (.cells #[.int .i64 r1, .bool r2, .int .i64 r3, .string r4, .slice la' r5.length lc', .slice ka' r6.length kc'] 26))
  have HBX := Lib.hid ((Block.new w [.int .i64 q1, .bool q2, .int .i64 q3, .string q4, .slice la q5.length lc, .slice ka q6.length kc] 26).alloc (.cells #[.int .i64 r1, .bool r2, .int .i64 r3, .string r4, .slice la' r5.length lc', .slice ka' r6.length kc'] 26))
  have HBY := Lib.hid (Block.new (w.alloc (.cells #[.int .i64 q1, .bool q2, .int .i64 q3, .string q4, .slice la q5.length lc, .slice ka q6.length kc] 26)) [.int .i64 r1, .bool r2, .int .i64 r3, .string r4, .slice la' r5.length lc', .slice ka' r6.length kc'] 26)
  have HO : Hid (ordV (.mk q1 q2 q3 q4 q5 q6) (.mk r1 r2 r3 r4 r5 r6) = if q1 = r1 then firstI [ordVs (q1 == 5) q5 r5 q6 r6, cmpI q5.length r5.length, cmpI (bn q2) (bn r2), cmpI q3 r3, cmpS q4 r4] else cmpI (placeI q1) (placeI r1)) := Lib.hid (by rw [ordV])
  obtain ⟨R, hR⟩ : ∃ R, ordV (.mk q1 q2 q3 q4 q5 q6) (.mk r1 r2 r3 r4 r5 r6) = R := ⟨_, rfl⟩
  rw [hR] at HO ⊢
  clear hR
  by_cases he : q1 = r1
  rotate_left
  · have hne : (q1 != r1) = true := by simp; exact he
    have HR : Hid (R = cmpI (placeI q1) (placeI r1)) := Lib.hid (by rw [HO.out, if_neg he])
    have HP1 := Lib.hid (fun w => calls_turn (place_any q1 w hk7.1 hk7.2))
    have HP2 := Lib.hid (fun w => calls_turn (place_any r1 w hk7'.1 hk7'.2))
    have HC := Lib.hid (fun w => calls_turn (cmpI_any (placeI q1) (placeI r1) w))
    generalize placeI q1 = x1 at *
    generalize placeI r1 = x2 at *
    generalize cmpI x1 x2 = x3 at *
    have v1 := and7 hk7.1 hk7.2
    have v2 := and7 hk7'.1 hk7'.2
    clear he
    go_enter Try.func17, Try.ntmps17
    go_wp2_with fail
    go_quiet (first | (go_at_call 36; first | (with_reducible exact Calls.quiet_of_same (HP1.out _)) | (with_reducible exact Calls.quiet_of_same (HP2.out _))) | (go_at_call 35; exact Calls.quiet_of_same (HC.out _)))
    go_wp2_with fail
    go_ret
    exact ⟨by rw [HR.out]; rfl, below_draws HB0.out _⟩
  subst he
  have HR : Hid (R = firstI [ordVs (q1 == 5) q5 r5 q6 r6, cmpI q5.length r5.length, cmpI (bn q2) (bn r2), cmpI q3 r3, cmpS q4 r4]) := Lib.hid (by rw [HO.out, if_pos rfl])
  clear HO
  obtain ⟨O, hO⟩ : ∃ O, ordVs (q1 == 5) q5 r5 q6 r6 = O := ⟨_, rfl⟩
  have HO := Lib.hid hO
  rw [hO] at HR
  clear hO
  go_enter Try.func17, Try.ntmps17
  go_wp2_with fail
  go_loopw [5] (fun iv wr => ∃ j : Nat, iv = .int .i64 j ∧ j ≤ q5.length ∧ Hid (Below (w.heap.size + 2) ((w.alloc (.cells #[.int .i64 q1, .bool q2, .int .i64 q3, .string q4, .slice la q5.length lc, .slice ka q6.length kc] 26)).alloc (.cells #[.int .i64 q1, .bool r2, .int .i64 r3, .string r4, .slice la' r5.length lc', .slice ka' r6.length kc'] 26)) wr) ∧ Hid (O = ordVs (q1 == 5) (q5.drop j) (r5.drop j) (q6.drop j) (r6.drop j))) (fun iv _ => q5.length - (intOf iv).toNat)
  case atStart => exact ⟨0, rfl, Nat.zero_le _, Lib.hid (Below.refl _ _), Lib.hid HO.out.symm⟩
  case round =>
    obtain ⟨j, rfl, hj, HBW, HN⟩ := hrel
    have HBR := Lib.hid (HB0.out.trans (HBW.out.mono (by omega)))
    have bx := HBX.out.below HBW.out (by omega)
    have cy := HBY.out.below HBW.out (by simp)
    have x0 := bx.cell (i := 0) rfl
    have x4 := bx.cell (i := 4) rfl
    have x5 := bx.cell (i := 5) rfl
    have y4 : wr.cell? ⟨w.heap.size + 1, 4, none⟩ = some (.slice la' r5.length lc') := by have h := cy.cell (i := 4) rfl; simpa using h
    have y5 : wr.cell? ⟨w.heap.size + 1, 5, none⟩ = some (.slice ka' r6.length kc') := by have h := cy.cell (i := 5) rfl; simpa using h
    have hz : w.heap.size ≤ wr.heap.size := HBR.out.size
    have hz2 : w.heap.size + 2 ≤ wr.heap.size := by have := HBW.out.size; simpa using this
    by_cases hlt : j < q5.length ∧ j < r5.length
    · obtain ⟨hl1, hl2⟩ := hlt
      have hl1' : (j : Int) < q5.length := by omega
      have hl2' : (j : Int) < r5.length := by omega
      have hj0 : (0 : Int) ≤ (j : Int) := by omega
      obtain ⟨t, ht⟩ := get_some hl1
      obtain ⟨u, hu⟩ := get_some hl2
      have HAT := Lib.hid (ordVs_at (m := q1 == 5) q6 r6 ht hu)
      obtain ⟨eb, eo, k1, b1, i1, s1, l1, ks1, la1, lc1, ka1, kc1, rfl, rfl, heb, ⟨g0, g1, g2, g3, g4, g5⟩, hV1⟩ := (HLs.out.below HBR.out hB).at ht
      obtain ⟨fb, fo, k2, b2, i2, s2, l2, ks2, la2, lc2, ka2, kc2, rfl, rfl, hfb, ⟨f0, f1, f2, f3, f4, f5⟩, hV2⟩ := (HLs'.out.below HBR.out hB).at hu
      obtain ⟨qa, hqa⟩ := HSUB.out j _ ht
      obtain ⟨qb, hqb⟩ := HSUB'.out j _ hu
      have HCO := Lib.hid (fun w' (hb : Below wr.heap.size wr w') => IH.out j _ ht _ _ _ B w' _ _ qa qb (IsV.below hb (Nat.le_trans hB hz) _ _ hV1) (IsV.below hb (Nat.le_trans hB hz) _ _ hV2) (Nat.le_trans hB (Nat.le_trans hz hb.size)) hqa hqb)
      have HS : Hid (∀ w', Below wr.heap.size wr w' → w'.cell? ⟨w.heap.size, 4, none⟩ = some (.slice (some ⟨eb, eo, none⟩) q5.length lc) ∧ w'.cell? ⟨w.heap.size + 1, 4, none⟩ = some (.slice (some ⟨fb, fo, none⟩) r5.length lc') ∧ w'.cell? ⟨eb, eo + j * 6, none⟩ = some (.int .i64 k1) ∧ w'.cell? ⟨eb, eo + j * 6 + 1, none⟩ = some (.bool b1) ∧ w'.cell? ⟨eb, eo + j * 6 + 2, none⟩ = some (.int .i64 i1) ∧ w'.cell? ⟨eb, eo + j * 6 + 3, none⟩ = some (.string s1) ∧ w'.cell? ⟨eb, eo + j * 6 + 4, none⟩ = some (.slice la1 l1.length lc1) ∧ w'.cell? ⟨eb, eo + j * 6 + 5, none⟩ = some (.slice ka1 ks1.length kc1) ∧ w'.cell? ⟨fb, fo + j * 6, none⟩ = some (.int .i64 k2) ∧ w'.cell? ⟨fb, fo + j * 6 + 1, none⟩ = some (.bool b2) ∧ w'.cell? ⟨fb, fo + j * 6 + 2, none⟩ = some (.int .i64 i2) ∧ w'.cell? ⟨fb, fo + j * 6 + 3, none⟩ = some (.string s2) ∧ w'.cell? ⟨fb, fo + j * 6 + 4, none⟩ = some (.slice la2 l2.length lc2) ∧ w'.cell? ⟨fb, fo + j * 6 + 5, none⟩ = some (.slice ka2 ks2.length kc2)) := Lib.hid (fun w' hb => ⟨(hb.cell (by show w.heap.size < wr.heap.size; omega)).trans x4, (hb.cell (by show w.heap.size + 1 < wr.heap.size; omega)).trans y4, (hb.cell (by show eb < wr.heap.size; omega)).trans g0, (hb.cell (by show eb < wr.heap.size; omega)).trans g1, (hb.cell (by show eb < wr.heap.size; omega)).trans g2, (hb.cell (by show eb < wr.heap.size; omega)).trans g3, (hb.cell (by show eb < wr.heap.size; omega)).trans g4, (hb.cell (by show eb < wr.heap.size; omega)).trans g5, (hb.cell (by show fb < wr.heap.size; omega)).trans f0, (hb.cell (by show fb < wr.heap.size; omega)).trans f1, (hb.cell (by show fb < wr.heap.size; omega)).trans f2, (hb.cell (by show fb < wr.heap.size; omega)).trans f3, (hb.cell (by show fb < wr.heap.size; omega)).trans f4, (hb.cell (by show fb < wr.heap.size; omega)).trans f5⟩)
      obtain ⟨X, hX⟩ : ∃ X, ordV (.mk k1 b1 i1 s1 l1 ks1) (.mk k2 b2 i2 s2 l2 ks2) = X := ⟨_, rfl⟩
      rw [hX] at HCO HAT
      clear hX ht hu hqa hqb hV1 hV2 bx cy
      by_cases h5 : q1 = 5
      · have m5 : (q1 == 5) = true := by simp; exact h5
        have hkl : q6.length = q5.length := ((of_decide_eq_true HHD.out).2.2.2.2.2.2 h5).1
        have hkr : r6.length = r5.length := ((of_decide_eq_true HHD'.out).2.2.2.2.2.2 h5).1
        have hl3' : (j : Int) < q6.length := by omega
        have hl4' : (j : Int) < r6.length := by omega
        obtain ⟨x, hx⟩ := get_some (show j < q6.length by omega)
        obtain ⟨y, hy⟩ := get_some (show j < r6.length by omega)
        obtain ⟨kb, ko, rfl, hkb, e1⟩ := StrRow.get (HKs.out.below HBR.out hB) hx
        obtain ⟨mb, mo, rfl, hmb, e2⟩ := StrRow.get (HKs'.out.below HBR.out hB) hy
        have HC := Lib.hid (fun w => calls_turn (cmpS_any x y w))
        rw [m5, if_pos rfl, head_drop hx, head_drop hy] at HAT
        rw [m5] at HN HO ⊢
        obtain ⟨C, hC⟩ : ∃ C, cmpS x y = C := ⟨_, rfl⟩
        rw [hC] at HC HAT
        clear hC hx hy h5 hkl hkr
        obtain ⟨F, hF⟩ : ∃ F, firstI [C, X] = F := ⟨_, rfl⟩
        have HF2 := Lib.hid (fun b n w h0 h1 => first2_any C X b n w h0 h1)
        rw [first3, hF] at HAT
        rw [hF] at HF2
        clear hF
        by_cases hF0 : F = 0
        · have bF : (F != 0) = false := by simp; exact hF0
          have HN2 : Hid (O = _) := Lib.hid (HN.out.trans (HAT.out.trans (if_pos hF0)))
          clear hF0
          go_wp2_with fail
          go_quiet ((go_at_call 37; exact Calls.quiet_of_same (HC.out _)))
          go_wp2_with fail
          go_region_held3 (fun u : World => u.cell? ⟨w.heap.size, 4, none⟩ = some (.slice (some ⟨eb, eo, none⟩) q5.length lc) ∧ u.cell? ⟨w.heap.size + 1, 4, none⟩ = some (.slice (some ⟨fb, fo, none⟩) r5.length lc') ∧ u.cell? ⟨eb, eo + j * 6, none⟩ = some (.int .i64 k1) ∧ u.cell? ⟨eb, eo + j * 6 + 1, none⟩ = some (.bool b1) ∧ u.cell? ⟨eb, eo + j * 6 + 2, none⟩ = some (.int .i64 i1) ∧ u.cell? ⟨eb, eo + j * 6 + 3, none⟩ = some (.string s1) ∧ u.cell? ⟨eb, eo + j * 6 + 4, none⟩ = some (.slice la1 l1.length lc1) ∧ u.cell? ⟨eb, eo + j * 6 + 5, none⟩ = some (.slice ka1 ks1.length kc1) ∧ u.cell? ⟨fb, fo + j * 6, none⟩ = some (.int .i64 k2) ∧ u.cell? ⟨fb, fo + j * 6 + 1, none⟩ = some (.bool b2) ∧ u.cell? ⟨fb, fo + j * 6 + 2, none⟩ = some (.int .i64 i2) ∧ u.cell? ⟨fb, fo + j * 6 + 3, none⟩ = some (.string s2) ∧ u.cell? ⟨fb, fo + j * 6 + 4, none⟩ = some (.slice la2 l2.length lc2) ∧ u.cell? ⟨fb, fo + j * 6 + 5, none⟩ = some (.slice ka2 ks2.length kc2)) (first | exact HS.out _ (below_draws (Below.refl _ _) _).drew | exact HS.out _ (Below.refl _ _).drew | exact HS.out _ hb3 | exact HS.out _ (hb3.alloc hz3 _)) (first | (go_at_call 17; refine (HCO.out _ (by first | exact (below_draws (Below.refl _ _) _).drew | exact (Below.refl _ _).drew)).mono ?_; rintro e w2 ⟨rfl, hb2⟩; have hb3 : Below wr.heap.size wr w2 := (by first | exact below_step (below_draws (Below.refl _ _) _).drew rfl hb2 | exact below_step (Below.refl _ _).drew rfl hb2); have hz3 := hb3.size; clear hb2) | (go_at_call 38; refine (HF2.out _ _ _ (by simp) (by simp)).mono ?_; rintro e w3 ⟨rfl, rfl⟩))
          clear x0 x4 x5 y4 y5 g0 g1 g2 g3 g4 g5 f0 f1 f2 f3 f4 f5
          go_wp2_with fail
          go_roundw
          case rel => exact ⟨j + 1, by go_num, by omega, Lib.hid (HBW.out.trans (Below.mono (hb3.alloc hz3 _) hz2)), HN2⟩
          case measure => simp [intOf]; omega
        · have bF : (F != 0) = true := by simp; exact hF0
          have HRF : Hid (R = F) := Lib.hid (by rw [HR.out, HN.out, HAT.out, if_neg hF0]; unfold firstI; rw [if_neg hF0])
          clear hF0
          go_wp2_with fail
          go_quiet ((go_at_call 37; exact Calls.quiet_of_same (HC.out _)))
          go_wp2_with fail
          go_region_held3 (fun u : World => u.cell? ⟨w.heap.size, 4, none⟩ = some (.slice (some ⟨eb, eo, none⟩) q5.length lc) ∧ u.cell? ⟨w.heap.size + 1, 4, none⟩ = some (.slice (some ⟨fb, fo, none⟩) r5.length lc') ∧ u.cell? ⟨eb, eo + j * 6, none⟩ = some (.int .i64 k1) ∧ u.cell? ⟨eb, eo + j * 6 + 1, none⟩ = some (.bool b1) ∧ u.cell? ⟨eb, eo + j * 6 + 2, none⟩ = some (.int .i64 i1) ∧ u.cell? ⟨eb, eo + j * 6 + 3, none⟩ = some (.string s1) ∧ u.cell? ⟨eb, eo + j * 6 + 4, none⟩ = some (.slice la1 l1.length lc1) ∧ u.cell? ⟨eb, eo + j * 6 + 5, none⟩ = some (.slice ka1 ks1.length kc1) ∧ u.cell? ⟨fb, fo + j * 6, none⟩ = some (.int .i64 k2) ∧ u.cell? ⟨fb, fo + j * 6 + 1, none⟩ = some (.bool b2) ∧ u.cell? ⟨fb, fo + j * 6 + 2, none⟩ = some (.int .i64 i2) ∧ u.cell? ⟨fb, fo + j * 6 + 3, none⟩ = some (.string s2) ∧ u.cell? ⟨fb, fo + j * 6 + 4, none⟩ = some (.slice la2 l2.length lc2) ∧ u.cell? ⟨fb, fo + j * 6 + 5, none⟩ = some (.slice ka2 ks2.length kc2)) (first | exact HS.out _ (below_draws (Below.refl _ _) _).drew | exact HS.out _ (Below.refl _ _).drew | exact HS.out _ hb3 | exact HS.out _ (hb3.alloc hz3 _)) (first | (go_at_call 17; refine (HCO.out _ (by first | exact (below_draws (Below.refl _ _) _).drew | exact (Below.refl _ _).drew)).mono ?_; rintro e w2 ⟨rfl, hb2⟩; have hb3 : Below wr.heap.size wr w2 := (by first | exact below_step (below_draws (Below.refl _ _) _).drew rfl hb2 | exact below_step (Below.refl _ _).drew rfl hb2); have hz3 := hb3.size; clear hb2) | (go_at_call 38; refine (HF2.out _ _ _ (by simp) (by simp)).mono ?_; rintro e w3 ⟨rfl, rfl⟩))
          clear x0 x4 x5 y4 y5 g0 g1 g2 g3 g4 g5 f0 f1 f2 f3 f4 f5
          go_wp2_with fail
          go_ret
          exact ⟨by rw [HRF.out]; rfl, HBR.out.trans (Below.mono (hb3.alloc hz3 _) hz)⟩
      · have m5 : (q1 == 5) = false := by simp; exact h5
        rw [m5, if_neg (by decide)] at HAT
        rw [m5] at HN HO ⊢
        obtain ⟨C, hC⟩ : ∃ C : Int, 0 = C := ⟨_, rfl⟩
        have hC' := hC
        rw [hC] at HAT
        clear h5
        subst hC'
        obtain ⟨F, hF⟩ : ∃ F, firstI [0, X] = F := ⟨_, rfl⟩
        have HF2 := Lib.hid (fun b n w h0 h1 => first2_any 0 X b n w h0 h1)
        rw [first3, hF] at HAT
        rw [hF] at HF2
        clear hF
        by_cases hF0 : F = 0
        · have bF : (F != 0) = false := by simp; exact hF0
          have HN2 : Hid (O = _) := Lib.hid (HN.out.trans (HAT.out.trans (if_pos hF0)))
          clear hF0
          go_wp2_with fail
          go_region_held3 (fun u : World => u.cell? ⟨w.heap.size, 4, none⟩ = some (.slice (some ⟨eb, eo, none⟩) q5.length lc) ∧ u.cell? ⟨w.heap.size + 1, 4, none⟩ = some (.slice (some ⟨fb, fo, none⟩) r5.length lc') ∧ u.cell? ⟨eb, eo + j * 6, none⟩ = some (.int .i64 k1) ∧ u.cell? ⟨eb, eo + j * 6 + 1, none⟩ = some (.bool b1) ∧ u.cell? ⟨eb, eo + j * 6 + 2, none⟩ = some (.int .i64 i1) ∧ u.cell? ⟨eb, eo + j * 6 + 3, none⟩ = some (.string s1) ∧ u.cell? ⟨eb, eo + j * 6 + 4, none⟩ = some (.slice la1 l1.length lc1) ∧ u.cell? ⟨eb, eo + j * 6 + 5, none⟩ = some (.slice ka1 ks1.length kc1) ∧ u.cell? ⟨fb, fo + j * 6, none⟩ = some (.int .i64 k2) ∧ u.cell? ⟨fb, fo + j * 6 + 1, none⟩ = some (.bool b2) ∧ u.cell? ⟨fb, fo + j * 6 + 2, none⟩ = some (.int .i64 i2) ∧ u.cell? ⟨fb, fo + j * 6 + 3, none⟩ = some (.string s2) ∧ u.cell? ⟨fb, fo + j * 6 + 4, none⟩ = some (.slice la2 l2.length lc2) ∧ u.cell? ⟨fb, fo + j * 6 + 5, none⟩ = some (.slice ka2 ks2.length kc2)) (first | exact HS.out _ (below_draws (Below.refl _ _) _).drew | exact HS.out _ (Below.refl _ _).drew | exact HS.out _ hb3 | exact HS.out _ (hb3.alloc hz3 _)) (first | (go_at_call 17; refine (HCO.out _ (by first | exact (below_draws (Below.refl _ _) _).drew | exact (Below.refl _ _).drew)).mono ?_; rintro e w2 ⟨rfl, hb2⟩; have hb3 : Below wr.heap.size wr w2 := (by first | exact below_step (below_draws (Below.refl _ _) _).drew rfl hb2 | exact below_step (Below.refl _ _).drew rfl hb2); have hz3 := hb3.size; clear hb2) | (go_at_call 38; refine (HF2.out _ _ _ (by simp) (by simp)).mono ?_; rintro e w3 ⟨rfl, rfl⟩))
          clear x0 x4 x5 y4 y5 g0 g1 g2 g3 g4 g5 f0 f1 f2 f3 f4 f5
          go_wp2_with fail
          go_roundw
          case rel => exact ⟨j + 1, by go_num, by omega, Lib.hid (HBW.out.trans (Below.mono (hb3.alloc hz3 _) hz2)), HN2⟩
          case measure => simp [intOf]; omega
        · have bF : (F != 0) = true := by simp; exact hF0
          have HRF : Hid (R = F) := Lib.hid (by rw [HR.out, HN.out, HAT.out, if_neg hF0]; unfold firstI; rw [if_neg hF0])
          clear hF0
          go_wp2_with fail
          go_region_held3 (fun u : World => u.cell? ⟨w.heap.size, 4, none⟩ = some (.slice (some ⟨eb, eo, none⟩) q5.length lc) ∧ u.cell? ⟨w.heap.size + 1, 4, none⟩ = some (.slice (some ⟨fb, fo, none⟩) r5.length lc') ∧ u.cell? ⟨eb, eo + j * 6, none⟩ = some (.int .i64 k1) ∧ u.cell? ⟨eb, eo + j * 6 + 1, none⟩ = some (.bool b1) ∧ u.cell? ⟨eb, eo + j * 6 + 2, none⟩ = some (.int .i64 i1) ∧ u.cell? ⟨eb, eo + j * 6 + 3, none⟩ = some (.string s1) ∧ u.cell? ⟨eb, eo + j * 6 + 4, none⟩ = some (.slice la1 l1.length lc1) ∧ u.cell? ⟨eb, eo + j * 6 + 5, none⟩ = some (.slice ka1 ks1.length kc1) ∧ u.cell? ⟨fb, fo + j * 6, none⟩ = some (.int .i64 k2) ∧ u.cell? ⟨fb, fo + j * 6 + 1, none⟩ = some (.bool b2) ∧ u.cell? ⟨fb, fo + j * 6 + 2, none⟩ = some (.int .i64 i2) ∧ u.cell? ⟨fb, fo + j * 6 + 3, none⟩ = some (.string s2) ∧ u.cell? ⟨fb, fo + j * 6 + 4, none⟩ = some (.slice la2 l2.length lc2) ∧ u.cell? ⟨fb, fo + j * 6 + 5, none⟩ = some (.slice ka2 ks2.length kc2)) (first | exact HS.out _ (below_draws (Below.refl _ _) _).drew | exact HS.out _ (Below.refl _ _).drew | exact HS.out _ hb3 | exact HS.out _ (hb3.alloc hz3 _)) (first | (go_at_call 17; refine (HCO.out _ (by first | exact (below_draws (Below.refl _ _) _).drew | exact (Below.refl _ _).drew)).mono ?_; rintro e w2 ⟨rfl, hb2⟩; have hb3 : Below wr.heap.size wr w2 := (by first | exact below_step (below_draws (Below.refl _ _) _).drew rfl hb2 | exact below_step (Below.refl _ _).drew rfl hb2); have hz3 := hb3.size; clear hb2) | (go_at_call 38; refine (HF2.out _ _ _ (by simp) (by simp)).mono ?_; rintro e w3 ⟨rfl, rfl⟩))
          clear x0 x4 x5 y4 y5 g0 g1 g2 g3 g4 g5 f0 f1 f2 f3 f4 f5
          go_wp2_with fail
          go_ret
          exact ⟨by rw [HRF.out]; rfl, HBR.out.trans (Below.mono (hb3.alloc hz3 _) hz)⟩
    · have HOE := Lib.hid (HN.out.trans (ordVs_end _ _ hlt))
      have hnl : ¬ ((j : Int) < q5.length) ∨ ((j : Int) < q5.length ∧ ¬ ((j : Int) < r5.length)) := by omega
      have x1 := bx.cell (i := 1) rfl
      have x2 := bx.cell (i := 2) rfl
      have x3 := bx.cell (i := 3) rfl
      have y1 : wr.cell? ⟨w.heap.size + 1, 1, none⟩ = some (.bool r2) := by have h := cy.cell (i := 1) rfl; simpa using h
      have y2 : wr.cell? ⟨w.heap.size + 1, 2, none⟩ = some (.int .i64 r3) := by have h := cy.cell (i := 2) rfl; simpa using h
      have y3 : wr.cell? ⟨w.heap.size + 1, 3, none⟩ = some (.string r4) := by have h := cy.cell (i := 3) rfl; simpa using h
      have HCA := Lib.hid (fun w => calls_turn (cmpI_any q5.length r5.length w))
      have HCB := Lib.hid (fun w => calls_turn (cmpI_any (bn q2) (bn r2) w))
      have HN1 := Lib.hid (fun w => calls_turn (number_any q2 w))
      have HN2 := Lib.hid (fun w => calls_turn (number_any r2 w))
      have HCC := Lib.hid (fun w => calls_turn (cmpL_any q3 r3 w))
      have HCD := Lib.hid (fun w => calls_turn (cmpS_any q4 r4 w))
      rw [HOE.out] at HR
      unfold bn at HCB HR
      generalize cmpI q5.length r5.length = CA at HCA HR
      generalize (if q2 = true then (1 : Int) else 0) = N1 at HCB HN1 HR
      generalize (if r2 = true then (1 : Int) else 0) = N2 at HCB HN2 HR
      generalize cmpI N1 N2 = CB at HCB HR
      generalize cmpI q3 r3 = CC at HCC HR
      generalize cmpS q4 r4 = CD at HCD HR
      have HF4 := Lib.hid (fun b n w h0 h1 h2 h3 => first4_any CA CB CC CD b n w h0 h1 h2 h3)
      have HR' : Hid (R = firstI [CA, CB, CC, CD]) := Lib.hid (by rw [HR.out]; rfl)
      clear hlt bx cy
      rcases hnl with h1 | ⟨h1, h2⟩
      all_goals
        go_wp2_with fail
        refine wp_still_tail' 24 (by kernel_rfl) (by kernel_rfl) ?_
        rintro w2 ⟨hb2, hh2⟩
        have HB2 : Hid (Below wr.heap.size wr w2) := Lib.hid ⟨hb2.os, hb2.tape, hb2.output, hb2.size, hb2.block⟩
        clear hb2 hh2
        have X1 := (HB2.out.cell (p := ⟨w.heap.size, 1, none⟩) (by show w.heap.size < wr.heap.size; omega)).trans x1
        have X2 := (HB2.out.cell (p := ⟨w.heap.size, 2, none⟩) (by show w.heap.size < wr.heap.size; omega)).trans x2
        have X3 := (HB2.out.cell (p := ⟨w.heap.size, 3, none⟩) (by show w.heap.size < wr.heap.size; omega)).trans x3
        have X4 := (HB2.out.cell (p := ⟨w.heap.size, 4, none⟩) (by show w.heap.size < wr.heap.size; omega)).trans x4
        have Y1 := (HB2.out.cell (p := ⟨w.heap.size + 1, 1, none⟩) (by show w.heap.size + 1 < wr.heap.size; omega)).trans y1
        have Y2 := (HB2.out.cell (p := ⟨w.heap.size + 1, 2, none⟩) (by show w.heap.size + 1 < wr.heap.size; omega)).trans y2
        have Y3 := (HB2.out.cell (p := ⟨w.heap.size + 1, 3, none⟩) (by show w.heap.size + 1 < wr.heap.size; omega)).trans y3
        have Y4 := (HB2.out.cell (p := ⟨w.heap.size + 1, 4, none⟩) (by show w.heap.size + 1 < wr.heap.size; omega)).trans y4
        clear x0 x1 x2 x3 x4 x5 y1 y2 y3 y4 y5
        simp only [List.take_succ_cons, List.take_zero, List.drop_succ_cons, List.drop_zero]
        iterate 6 still_step
        still_call (HCA.out w2)
        iterate 2 still_step
        still_call (HN1.out w2)
        iterate 2 still_step
        still_call (HN2.out w2)
        still_call (HCB.out w2)
        iterate 4 still_step
        still_call (HCC.out w2)
        iterate 4 still_step
        still_call (HCD.out w2)
        refine wpStill_nil ?_
        go_wp2_with fail
        refine (HF4.out _ _ _ (by simp) (by simp) (by simp) (by simp)).mono ?_
        rintro e w3 ⟨rfl, rfl⟩
        go_wp2_with fail
        go_ret
        exact ⟨by rw [HR'.out]; rfl, HBR.out.trans (Below.mono (HB2.out.alloc HB2.out.size _) hz)⟩
end Go.Proofs.Ytdkgjbjlpofieaa

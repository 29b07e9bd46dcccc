/- Layer 12: the law ParseFirst, walked. Conditions: what Parse, Scan and the example answer. -/
import Derived.Test.YteljlahcdipilaaGreatF42
import Derived.Test.YteljlahcdipilaaGreatFQ80
import Derived.Test.YteljlahcdipilaaGreatF12
namespace Go.Proofs.YteljlahcdipilaaGreat
open Go.RowKit Go.Shelf
set_option linter.unusedSimpArgs false
set_option linter.unusedVariables false
set_option maxRecDepth 100000

theorem rem_split {L : List (Tok × Nat)} {k : Nat} {y : Tok × Nat} (h : L[k]? = some y) : rem L 0 = (L.take k).map Prod.fst ++ y.1 :: (L.drop (k + 1)).map Prod.fst ∧ rem L k = y.1 :: (L.drop (k + 1)).map Prod.fst := by
 have e := rem_cons h
 refine ⟨?_, e⟩
 unfold rem at e
 unfold rem
 rw [List.drop_zero]
 conv => lhs; rw [← List.take_append_drop k L, List.map_append, e]
theorem first_same {s m : List UInt8} {L L2 : List (Tok × Nat)} {k : Nat} {y y1 : Tok × Nat} {p x : Int} (h : scanL s = .ok L) (hk : L[k]? = some y) (hr : Run (.stmt []) (rem L 0) (.bad (rem L k))) (hy : L[k + 1]? = some y1) (h2 : scanL (s.take y1.2 ++ 32 :: m) = .ok L2) (hp : PAns (s.take y1.2 ++ 32 :: m) p x) : p = y.2 ∧ x = 1 := by
 obtain ⟨R2, rfl⟩ := scan_prefix h hy h2
 have hkl := (List.getElem?_eq_some_iff.1 hk).1
 have hk2 : (L.take (k + 1) ++ R2)[k]? = some y := by
  rw [List.getElem?_append_left (by rw [List.length_take]; omega), List.getElem?_take, if_pos (by omega)]
  exact hk
 have ht : (L.take (k + 1) ++ R2).take k = L.take k := by
  rw [List.take_append_of_le_length (by rw [List.length_take]; omega), List.take_take, Nat.min_eq_left (by omega)]
 obtain ⟨e0, e1⟩ := rem_split hk
 obtain ⟨f0, f1⟩ := rem_split hk2
 rw [e0, e1] at hr
 have hr2 := fault_first (R2 := ((L.take (k + 1) ++ R2).drop (k + 1)).map Prod.fst) hr
 rw [ht] at f0
 rw [← f0] at hr2
 unfold PAns at hp
 rw [h2] at hp
 rcases hp with ⟨k2, y2, g1, g2, rfl, rfl⟩ | ⟨v, r, g, _⟩
 ·have e := Pr.bad.inj (g2.fn hr2)
  rw [← f1] at e
  have e := congrArg List.length e
  have hl2 := (List.getElem?_eq_some_iff.1 g1).1
  have hl := (List.getElem?_eq_some_iff.1 hk2).1
  unfold rem at e
  rw [List.length_map, List.length_map, List.length_drop, List.length_drop] at e
  obtain rfl : k2 = k := by omega
  rw [hk2] at g1
  obtain rfl := Option.some.inj g1
  exact ⟨rfl, rfl⟩
 ·cases g.fn hr2
def endF (L : List (Tok × Nat)) (k i : Nat) : Int := if k < i then (match L[k + 1]? with | some y => (y.2 : Int) | none => -1) else -1
theorem endF_ne (L : List (Tok × Nat)) {k i : Nat} (h : i ≠ k) : endF L k (i + 1) = endF L k i := by
 unfold endF
 by_cases hk : k < i
 ·rw [if_pos hk, if_pos (by omega)]
 ·rw [if_neg hk, if_neg (by omega)]
theorem endF_some {L : List (Tok × Nat)} {k i : Nat} {y : Tok × Nat} (h : L[k + 1]? = some y) (hi : k < i) : endF L k i = y.2 := by
 unfold endF
 rw [if_pos hi, h]
theorem endF_none {L : List (Tok × Nat)} {k i : Nat} (h : L[k + 1]? = none) : endF L k i = -1 := by
 unfold endF
 split
 ·rw [h]
 ·rfl
set_option maxHeartbeats 16000000 in
theorem pfirst_of (s m : ByteArray) (w : World) (hs : s.size ≤ 1073741824) (hm : m.size ≤ 1073741824)
  (HP : ∀ (s' : ByteArray) (w0 : World), Below w.heap.size w w0 → s'.size ≤ 1099511627776 → Calls Tryz.prog 11 #[.string s'] w0 fun e w' => Below w0.heap.size w0 w' ∧ ∃ a n c p x, e = .returned (.tuple #[.agg #[.slice a n c], .int .i64 p, .int .i64 x]) ∧ PAns s'.data.toList p x)
  (HS : ∀ s' : ByteArray, s'.size ≤ 1099511627776 → ScanAll s' w)
  (HW : ∀ w0, Below w.heap.size w w0 → Calls Tryz.prog 8 #[] w0 fun e w' => e = .returned (.bool true) ∧ Below w0.heap.size w0 w') :
  Calls Tryz.prog 4 #[.string s, .string m] w fun e w' => e = .returned (.bool true) ∧ Below w.heap.size w w' := by
 have CP := Lib.hid HP
 have CW := Lib.hid HW
 have CS := Lib.hid HS
 clear HP HW HS
 have hsc := CS.out s (by omega)
 unfold ScanAll at hsc
 cases hL : scanL s.data.toList with
 | bad p0 x0 =>
  rw [hL] at hsc
  obtain ⟨hx0, hsb⟩ := hsc
  have SB := Lib.hid hsb
  have HL := Lib.hid hL
  clear hsb hL
  go_enter Tryz.func4, Tryz.ntmps4
  go_wp2_with (go_at_call 11; refine Stand.out ?_)
  refine Stand.mk ?_
  refine (CP.out s w (Below.refl _ _) (by omega)).mono ?_
  rintro e u1 ⟨hb1, a, n, c, p, x, rfl, hpa⟩
  unfold PAns at hpa
  rw [HL.out] at hpa
  obtain ⟨rfl, rfl⟩ := hpa
  have zb1 := hb1.size
  have BE1 := Lib.hid hb1
  clear hb1
  have hTh := block_there (Block.new u1 [.slice none 0 0] 35) 0 1 (Nat.le_refl 1)
  go_upto_region 2 with (refine wpList_store_mid rfl 35 _ _ rfl u1.heap.size 0 #[.slice a n c] rfl rfl hTh (by kernel_rfl) (by simp [Value.oneCell']) ?_)
  obtain ⟨u2, hu2⟩ : ∃ u, (u1.alloc (.cells #[.slice none 0 0] 35)).setCells u1.heap.size 0 ((#[.slice a n c] : Array Value).toList) = u := ⟨_, rfl⟩
  rw [hu2]
  have b2 : Below u1.heap.size u1 u2 := by rw [← hu2]; exact below_setCells (Nat.le_refl _) _ 0 _ ((Below.refl _ _).alloc (Nat.le_refl _) _)
  have BE2 := Lib.hid (BE1.out.trans (b2.mono zb1))
  clear hu2 hTh b2
  go_wp2_with (go_at_call 7; refine Stand.out ?_)
  refine Stand.mk ?_
  refine (SB.out u2 BE2.out).mono ?_
  rintro e u3 ⟨rfl, hb3⟩
  have BE3 := Lib.hid (BE2.out.trans (hb3.mono BE2.out.size))
  clear hb3
  have n0 : (x != 0) = true := by simp [bne, hx0]
  by_cases h1 : x = 1
  ·subst h1
   clear n0 hx0
   go_wp2_with fail
   refine (CW.out u3 BE3.out).mono ?_
   rintro e u4 ⟨rfl, hb4⟩
   go_wp2_with fail
   go_ret
   exact ⟨rfl, BE3.out.trans (hb4.mono BE3.out.size)⟩
  ·have n1 : (x != 1) = true := by simp [bne, h1]
   clear hx0
   go_wp2_with fail
   refine (CW.out u3 BE3.out).mono ?_
   rintro e u4 ⟨rfl, hb4⟩
   go_wp2_with fail
   go_ret
   exact ⟨rfl, BE3.out.trans (hb4.mono BE3.out.size)⟩
 | ok L =>
  rw [hL] at hsc
  obtain ⟨hso, -, -, hlen, -⟩ := hsc
  have HL := Lib.hid hL
  have hfa := scanL_facts hL
  have FA := Lib.hid hfa
  obtain ⟨n, hn⟩ : ∃ n, L.length = n := ⟨_, rfl⟩
  have HN := Lib.hid hn
  unfold ScanOk at hso
  rw [hn] at hso
  have SO := Lib.hid hso
  have hlen' : n ≤ 4097 := by omega
  clear hso hL hfa hn hlen
  go_enter Tryz.func4, Tryz.ntmps4
  go_wp2_with (go_at_call 11; refine Stand.out ?_)
  refine Stand.mk ?_
  refine (CP.out s w (Below.refl _ _) (by omega)).mono ?_
  rintro e u1 ⟨hb1, a, na, c, p, x, rfl, hpa⟩
  unfold PAns at hpa
  rw [HL.out] at hpa
  have zb1 := hb1.size
  have BE1 := Lib.hid hb1
  have PA := Lib.hid hpa
  clear hb1 hpa
  have hTh := block_there (Block.new u1 [.slice none 0 0] 35) 0 1 (Nat.le_refl 1)
  go_upto_region 2 with (refine wpList_store_mid rfl 35 _ _ rfl u1.heap.size 0 #[.slice a na c] rfl rfl hTh (by kernel_rfl) (by simp [Value.oneCell']) ?_)
  obtain ⟨u2, hu2⟩ : ∃ u, (u1.alloc (.cells #[.slice none 0 0] 35)).setCells u1.heap.size 0 ((#[.slice a na c] : Array Value).toList) = u := ⟨_, rfl⟩
  rw [hu2]
  have b2 : Below u1.heap.size u1 u2 := by rw [← hu2]; exact below_setCells (Nat.le_refl _) _ 0 _ ((Below.refl _ _).alloc (Nat.le_refl _) _)
  have BE2 := Lib.hid (BE1.out.trans (b2.mono zb1))
  clear hu2 hTh b2
  go_wp2_with (go_at_call 7; refine Stand.out ?_)
  refine Stand.mk ?_
  refine (SO.out u2 BE2.out).mono ?_
  rintro e u3 ⟨a1, c1, rfl, ho1, hb3⟩
  have HO := Lib.hid ho1
  have BE3 := Lib.hid (BE2.out.trans (hb3.mono BE2.out.size))
  clear hb3 ho1
  rcases PA.out with ⟨kk, y, hk, hr, rfl, rfl⟩ | ⟨v, r, -, rfl, hx⟩
  ·have HK := Lib.hid hk
   have HR := Lib.hid hr
   have hkn : kk < n := by rw [← HN.out]; exact (List.getElem?_eq_some_iff.1 hk).1
   clear hk hr PA
   go_wp2_with fail
   go_loopw [11, 12] (fun pe k wr => ∃ i : Nat, k = .int .i64 i ∧ i ≤ n ∧ pe = .int .i64 (endF L kk i) ∧ Hid (Below u3.heap.size u3 wr)) (fun _ k _ => n - (intOf k).toNat)
   case atStart => exact ⟨0, rfl, Nat.zero_le _, rfl, Lib.hid (Below.refl _ _)⟩
   case round =>
    obtain ⟨i, rfl, hin, hpe, HBR⟩ := hrel
    obtain ⟨wo, hwo⟩ : ∃ wo : World, wo = wr := ⟨_, rfl⟩
    subst hwo
    by_cases hq : i < n
    ·subst hpe
     have hq' : (i : Int) < n := by omega
     have hi0 : (0 : Int) ≤ (i : Int) := by omega
     obtain ⟨z, hz⟩ : ∃ z, L[i]? = some z := ⟨_, List.getElem?_eq_getElem (by rw [HN.out]; exact hq)⟩
     obtain ⟨g1, e1, hv1, hg1, z0, z1, z2, z3⟩ := tok_cells (own_below HO.out HBR.out) hz
     obtain ⟨rfl, rfl⟩ : a1 = some ⟨g1, 0, none⟩ ∧ c1 = e1 := by injection hv1 with h _ k; exact ⟨h, k⟩
     clear hv1 z1 z2
     by_cases hik : i = kk
     ·subst hik
      obtain rfl : y = z := by have := HK.out; rw [hz] at this; exact (Option.some.inj this).symm
      have e0 : ((y.2 : Int) == (y.2 : Int)) = true := by simp
      cases hy1 : L[i + 1]? with
      | none =>
       have h6 : y.1.k = 6 := by
        refine (FA.out.1 _ _ hz).2.1.2 ?_
        have := List.getElem?_eq_none_iff.1 hy1
        rw [HN.out] at this ⊢
        omega
       rw [h6] at z0
       have HE : Hid (endF L i (i + 1) = endF L i i) := Lib.hid (by rw [endF_none hy1, endF_none hy1])
       clear hy1 h6
       go_wp2_with fail
       go_roundw
       case rel => exact ⟨i + 1, by go_num, by omega, by rw [HE.out], HBR⟩
       case measure => simp [intOf]; omega
      | some y1 =>
       have hin1 : i + 1 < n := by rw [← HN.out]; exact (List.getElem?_eq_some_iff.1 hy1).1
       have n6 : ((y.1.k : Int) != 6) = true := by
        have h6 : y.1.k ≠ 6 := fun e => by have := (FA.out.1 _ _ hz).2.1.1 e; rw [HN.out] at this; omega
        have h6' : (y.1.k : Int) ≠ 6 := by omega
        simp [bne, h6']
       have hi1 : (0 : Int) ≤ (i : Int) + 1 := by omega
       have hi2 : (i : Int) + 1 < n := by omega
       obtain ⟨g2, e2, hv2, hg2, q0, q1, q2, q3⟩ := tok_cells (own_below HO.out HBR.out) hy1
       obtain ⟨rfl, rfl⟩ : g1 = g2 ∧ c1 = e2 := by injection hv2 with h _ k; injection h with h; injection h with h; exact ⟨h, k⟩
       have HE : Hid (endF L i (i + 1) = y1.2) := Lib.hid (endF_some hy1 (by omega))
       clear hy1 hv2 q0 q1 q2
       go_wp2_with fail
       go_roundw
       case rel => exact ⟨i + 1, by go_num, by omega, by rw [HE.out], HBR⟩
       case measure => simp [intOf]; omega
     ·have e0 : ((z.2 : Int) == (y.2 : Int)) = false := by
       refine beq_eq_false_iff_ne.2 (fun he => ?_)
       rcases Nat.lt_or_gt_of_ne hik with h | h
       ·have := FA.out.2 _ _ _ _ h hz HK.out; omega
       ·have := FA.out.2 _ _ _ _ h HK.out hz; omega
      go_wp2_with fail
      go_roundw
      case rel => exact ⟨i + 1, by go_num, by omega, by rw [endF_ne L hik], HBR⟩
      case measure => simp [intOf]; omega
    ·have hq' : ¬ (i : Int) < n := by omega
     have BEo := Lib.hid (BE3.out.trans (HBR.out.mono BE3.out.size))
     cases hy1 : L[kk + 1]? with
     | none =>
      rw [endF_none hy1] at hpe
      subst hpe
      have hys : (y.2 : Int) = s.size := by
       have := (FA.out.1 _ _ HK.out).2.2 (by have := List.getElem?_eq_none_iff.1 hy1; rw [HN.out] at this ⊢; omega)
       simp at this
       omega
      have he : ((y.2 : Int) == (s.size : Int)) = true := by rw [hys]; simp
      clear hys hy1
      go_wp2_with fail
      refine (CW.out wo BEo.out).mono ?_
      rintro e u4 ⟨rfl, hb4⟩
      go_wp2_with fail
      go_ret
      exact ⟨rfl, BEo.out.trans (hb4.mono BEo.out.size)⟩
     | some y1 =>
      rw [endF_some hy1 (by omega)] at hpe
      subst hpe
      have hys : y1.2 ≤ s.size := by have := (FA.out.1 _ _ hy1).1; simpa using this
      have hys' : (y1.2 : Int) ≤ s.size := by omega
      have hy0 : (0 : Int) ≤ (y1.2 : Int) := by omega
      have hyn : ¬ (y1.2 : Int) < 0 := by omega
      have HY := Lib.hid hy1
      clear hy1
      obtain ⟨T, hT⟩ : ∃ T, s.extract 0 y1.2 ++ ⟨#[32]⟩ ++ m = T := ⟨_, rfl⟩
      have hTl : T.data.toList = s.data.toList.take y1.2 ++ 32 :: m.data.toList := by rw [← hT]; simp [ByteArray.data_append, ByteArray.data_extract]
      have hTs : T.size ≤ 1099511627776 := by
       have h1 : T.size = T.data.toList.length := by simp
       rw [h1, hTl, List.length_append, List.length_take, List.length_cons]
       simp
       omega
      have HT := Lib.hid hT
      have HTL := Lib.hid hTl
      clear hT hTl
      have hsa := CS.out T hTs
      unfold ScanAll at hsa
      go_wp2_with (go_at_call 7; refine Stand.out ?_)
      refine Stand.mk ?_
      rw [HT.out]
      cases hL2 : scanL T.data.toList with
      | bad p2 x2 =>
       rw [hL2] at hsa
       obtain ⟨hx2, hsb⟩ := hsa
       have n0 : (x2 != 0) = true := by simp [bne, hx2]
       refine (hsb wo BEo.out).mono ?_
       rintro e u5 ⟨rfl, hb5⟩
       have BE5 := Lib.hid (BEo.out.trans (hb5.mono BEo.out.size))
       clear hb5 hsb hx2 hL2
       go_wp2_with fail
       refine (CW.out u5 BE5.out).mono ?_
       rintro e u6 ⟨rfl, hb6⟩
       go_wp2_with fail
       go_ret
       exact ⟨rfl, BE5.out.trans (hb6.mono BE5.out.size)⟩
      | ok L2 =>
       rw [hL2] at hsa
       refine (hsa.1 wo BEo.out).mono ?_
       rintro e u5 ⟨a5, c5, rfl, -, hb5⟩
       have BE5 := Lib.hid (BEo.out.trans (hb5.mono BEo.out.size))
       have HL2 := Lib.hid hL2
       clear hb5 hsa hL2
       go_wp2_with (go_at_call 11; refine Stand.out ?_)
       refine Stand.mk ?_
       refine (CP.out T u5 BE5.out hTs).mono ?_
       rintro e u6 ⟨hb6, a6, n6, c6, p, x, rfl, hpa⟩
       rw [HTL.out] at hpa
       obtain ⟨rfl, rfl⟩ := first_same HL.out HK.out HR.out HY.out (by rw [← HTL.out]; exact HL2.out) hpa
       have zb6 := hb6.size
       have BE6 := Lib.hid (BE5.out.trans (hb6.mono BE5.out.size))
       clear hb6 hpa
       have hTh := block_there (Block.new u6 [.slice none 0 0] 35) 0 1 (Nat.le_refl 1)
       go_upto_region 18 with (refine wpList_store_mid rfl 35 _ _ rfl u6.heap.size 0 #[.slice a6 n6 c6] rfl rfl hTh (by kernel_rfl) (by simp [Value.oneCell']) ?_)
       obtain ⟨u7, hu7⟩ : ∃ u, (u6.alloc (.cells #[.slice none 0 0] 35)).setCells u6.heap.size 0 ((#[.slice a6 n6 c6] : Array Value).toList) = u := ⟨_, rfl⟩
       rw [hu7]
       have b7 : Below u6.heap.size u6 u7 := by rw [← hu7]; exact below_setCells (Nat.le_refl _) _ 0 _ ((Below.refl _ _).alloc (Nat.le_refl _) _)
       have BE7 := Lib.hid (BE6.out.trans (b7.mono BE6.out.size))
       clear hu7 hTh b7
       have e0 : ((y.2 : Int) == (y.2 : Int)) = true := by simp
       go_wp2_with fail
       refine (CW.out u7 BE7.out).mono ?_
       rintro e u8 ⟨rfl, hb8⟩
       go_wp2_with fail
       go_ret
       exact ⟨rfl, BE7.out.trans (hb8.mono BE7.out.size)⟩
  ·have hx1 : (x != 1) = true := by rcases hx with rfl | rfl <;> rfl
   clear hx PA
   go_wp2_with fail
   refine (CW.out u3 BE3.out).mono ?_
   rintro e u4 ⟨rfl, hb4⟩
   go_wp2_with fail
   go_ret
   exact ⟨rfl, BE3.out.trans (hb4.mono BE3.out.size)⟩
end Go.Proofs.YteljlahcdipilaaGreat

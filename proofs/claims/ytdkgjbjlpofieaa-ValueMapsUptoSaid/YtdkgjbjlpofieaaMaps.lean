/- Layer 3: the law ValueMaps returns true. Conditions: names and values are small. -/
import Derived.Test.YtdkgjbjlpofieaaMapQ
import Derived.Test.YtdkgjbjlpofieaaRGet
namespace Go.Proofs.Ytdkgjbjlpofieaa
open Go.RowKit
set_option linter.unusedSimpArgs false
set_option linter.unusedVariables false
set_option maxRecDepth 100000

set_option maxHeartbeats 16000000 in
theorem maps_any (ks : List ByteArray) (ts : List Vt) (key : ByteArray) (na va : Option Addr) (nc vc B : Nat) (w : World) (hK : StrRow B w na ks) (hL : IsVs B w va 0 ts) (hB : B ≤ w.heap.size) (hnc : ks.length ≤ nc) (hnm : nc ≤ 9223372036854775807) (hvc : ts.length ≤ vc) (hvm : vc ≤ 9223372036854775807) (hnz : na = none → nc = 0)
    (hwt : 1 + (ks.map fun k => k.size + 1).sum + wtVs ts ≤ 1048576) :
    Calls Try.prog 3 #[.slice na ks.length nc, .slice va ts.length vc, .string key] w fun e w' => e = .returned (.bool true) ∧ Below w.heap.size w w' := by
  have hln : ts.length ≤ 1048576 := by have h1 := wtVs_len ts; omega
  have hkn : ks.length ≤ 1048576 := by have h1 := keys_len ks; omega
  obtain ⟨T, c, hq1, hq2, hwT, hsT⟩ := maps_two hwt
  obtain ⟨T2, hT2⟩ : ∃ X, (getV T key).getD emptyV = X := ⟨_, rfl⟩
  obtain ⟨ok, hok⟩ : ∃ X, (getV T key).isSome = X := ⟨_, rfl⟩
  obtain ⟨iS, siS, szS, s1S, s2S⟩ := info_parts Try.infoStr
  obtain ⟨iV, siV, szV, s1V, s2V⟩ := info_parts Try.infoVal
  have HM1 : Hid (∀ (w1 : World) (a9 b9 : Option Addr) (c9 d9 : Nat), StrRow w1.heap.size w1 a9 ks → IsVs w1.heap.size w1 b9 0 ts → ks.length ≤ c9 ∧ c9 ≤ 9223372036854775807 → ts.length ≤ d9 ∧ d9 ≤ 9223372036854775807 → Calls Try.prog 11 #[.slice a9 ks.length c9, .slice b9 ts.length d9] w1 (MapQ T c w1)) := Lib.hid (fun w1 a9 b9 c9 d9 h1 h2 h3 h4 => (map_any ks ts a9 b9 c9 d9 _ w1 h1 h2 (Nat.le_refl _) h3.1 h3.2 h4.1 h4.2 hwt (stable_all _ hkn)).mono fun e w' h => hq1 w1 e w' h)
  have HM2 : Hid (∀ (w1 : World), Below w.heap.size w w1 → Calls Try.prog 12 #[.slice na ks.length nc, .slice va ts.length vc] w1 (RMapQ T c w1)) := Lib.hid (fun w1 hb => (rmap_any ks ts na va nc vc B w1 (show StrRow B w1 na ks from hK.below hb hB) (hL.below hb hB) (Nat.le_trans hB hb.size) hnc hnm hvc hvm hwt).mono fun e w' h => hq2 w1 e w' h)
  have HSM : Hid (∀ (cs1 cs2 : List Value) (B1 : Nat) (w1 : World) (X : Vt), IsV B1 w1 cs1 X → IsV B1 w1 cs2 X → B1 ≤ w1.heap.size → Calls Try.prog 13 #[.agg cs1.toArray, .agg cs2.toArray] w1 fun e w' => e = .returned (.bool true) ∧ Below w1.heap.size w1 w') := Lib.hid (fun cs1 cs2 B1 w1 X h1 h2 h3 => by have h := same_any X X cs1 cs2 B1 w1 h1 h2 h3; rwa [(sameV_iff X X).2 rfl] at h)
  have HG1 : Hid (∀ (cs : List Value) (B1 : Nat) (w1 : World), IsV B1 w1 cs T → B1 ≤ w1.heap.size → Calls Try.prog 15 #[.agg cs.toArray, .string key] w1 (GetQ ((getV T key).getD emptyV) (getV T key).isSome w1)) := Lib.hid (fun cs B1 w1 h1 h2 => (get_any T key cs B1 w1 h1 h2 hwT hsT).mono fun e w' h => h.q)
  have HG2 : Hid (∀ (cs : List Value) (B1 : Nat) (w1 : World), IsV B1 w1 cs T → B1 ≤ w1.heap.size → Calls Try.prog 16 #[.agg cs.toArray, .string key] w1 (GetQ ((getV T key).getD emptyV) (getV T key).isSome w1)) := Lib.hid (fun cs B1 w1 h1 h2 => (rget_any T key cs B1 w1 h1 h2 hwT fun k b i s l ks e => (hsT k b i s l ks e).2).mono fun e w' h => h.q)
  have HWK : Hid (∀ w1 : World, Calls Try.prog 9 #[] w1 fun e w' => e = .returned (.bool true) ∧ Below w1.heap.size w1 w') := Lib.hid works_any
  rw [hT2, hok] at HG1 HG2
  clear hT2 hok
  have hcc : (c != c) = false := by simp
  have hokk : (ok != ok) = false := by simp
  obtain ⟨kT, bT, iT, sT, lT, ksT⟩ := T
  obtain ⟨T, hT⟩ : ∃ X, Vt.mk kT bT iT sT lT ksT = X := ⟨_, rfl⟩
  rw [hT] at HM1 HM2 HG1 HG2
  have HTT := Lib.hid hT
  obtain ⟨kU, bU, iU, sU, lU, ksU⟩ := T2
  obtain ⟨T2, hU⟩ : ∃ X, Vt.mk kU bU iU sU lU ksU = X := ⟨_, rfl⟩
  rw [hU] at HG1 HG2
  have HUU := Lib.hid hU
  obtain ⟨n, hn⟩ : ∃ n, ks.length = n := ⟨_, rfl⟩
  obtain ⟨m, hm⟩ : ∃ m, ts.length = m := ⟨_, rfl⟩
  rw [hn] at hkn hnc HM1 HM2 ⊢
  rw [hm] at hln hvc HM1 HM2 ⊢
  have HN := Lib.hid hn
  have HM := Lib.hid hm
  have HK := Lib.hid hK
  have HL := Lib.hid hL
  have HWT := Lib.hid hwt
  clear hn hm hK hL hwt hsT hwT hq1 hq2 hT hU
  go_enter Try.func3, Try.ntmps3
  go_wp2_with fail
  go_loopw [7] (fun iv wr => ∃ j : Nat, iv = .int .i64 j ∧ j ≤ m ∧ Hid (Below w.heap.size w wr)) (fun iv _ => m - (intOf iv).toNat)
  case atStart => exact ⟨0, rfl, Nat.zero_le _, Lib.hid (Below.refl _ _)⟩
  case round =>
    obtain ⟨j, rfl, hj, HBR⟩ := hrel
    by_cases hlt : j < m
    · skip
      have hlt' : (j : Int) < m := by omega
      have hj0 : (0 : Int) ≤ (j : Int) := by omega
      obtain ⟨t, ht⟩ := get_some (l := ts) (j := j) (by have := HM.out; omega)
      obtain ⟨eb, eo, k2, b2, i2, s2, l2, ks2, la2, lc2, ka2, kc2, rfl, rfl, heb, ⟨g0, g1, g2, g3, g4, g5⟩, hVt⟩ := (HL.out.below HBR.out hB).at ht
      have HMAY := Lib.hid (May_any _ _ B wr hVt (Nat.le_trans hB HBR.out.size))
      clear ht hVt
      obtain ⟨mb, hmb⟩ : ∃ mb, mayB (.mk k2 b2 i2 s2 l2 ks2) = mb := ⟨_, rfl⟩
      rw [hmb] at HMAY
      clear hmb
      cases mb with
      | false =>
        go_wp2_with fail
        refine HMAY.out.mono ?_
        rintro e w2 ⟨rfl, hb2⟩
        have HB2 := Lib.hid (below_step HBR.out rfl hb2)
        clear hb2 g0 g1 g2 g3 g4 g5
        have HBZ := Lib.hid (HB2.out)
        go_wp2_with fail
        refine (HWK.out _).mono ?_
        rintro e w99 ⟨rfl, hb99⟩
        have HBY := Lib.hid (below_step HBZ.out rfl hb99)
        clear hb99
        go_wp2_with fail
        go_ret
        exact ⟨by rfl, HBY.out⟩
      | true =>
        go_wp2_with fail
        refine HMAY.out.mono ?_
        rintro e w2 ⟨rfl, hb2⟩
        have HB2 := Lib.hid (below_step HBR.out rfl hb2)
        clear hb2 g0 g1 g2 g3 g4 g5
        go_wp2_with fail
        go_roundw
        case rel => exact ⟨j + 1, by go_num, by omega, HB2⟩
        case measure => simp [intOf]; omega
    · skip
      have hlt' : ¬ (j : Int) < m := by omega
      go_wp2_with fail
      go_loopw [8, 9] (fun lv iv wr => ∃ (j : Nat) (a : Option Addr) (c : Nat) (cl : List Value) (bs : List Nat), lv = .slice a j c ∧ iv = .int .i64 j ∧ j ≤ m ∧ Hid (RowO w.heap.size wr (.slice a j c) j cl (ts.take j) bs) ∧ Hid (Below w.heap.size w wr)) (fun _ iv _ => m - (intOf iv).toNat)
      case atStart => exact ⟨0, none, 0, [], [], rfl, rfl, Nat.zero_le _, Lib.hid (RowO.nil _ _), HBR⟩
      case round =>
        clear HBR hlt hlt' hj
        obtain ⟨j, a, c0, cl, bs, rfl, rfl, hj, HRO, HBR⟩ := hrel
        by_cases hlt : j < m
        · skip
          have hlt' : (j : Int) < m := by omega
          have hj0 : (0 : Int) ≤ (j : Int) := by omega
          obtain ⟨t, ht⟩ := get_some (l := ts) (j := j) (by have := HM.out; omega)
          obtain ⟨eb, eo, k2, b2, i2, s2, l2, ks2, la2, lc2, ka2, kc2, rfl, rfl, heb, ⟨g0, g1, g2, g3, g4, g5⟩, hVt⟩ := (HL.out.below HBR.out hB).at ht
          have hzr := HBR.out.size
          have HCO := Lib.hid (rcopy_any _ _ B wr hVt (Nat.le_trans hB HBR.out.size) (by have h1 := wtVs_get ht; have := HWT.out; omega))
          have HTJ := Lib.hid ht
          clear ht hVt
          go_wp2_with fail
          refine HCO.out.mono ?_
          rintro e w2 ⟨cs', bs', rfl, hb2, ho2, hn2, hbs2⟩
          have ho3 := ho2
          unfold IsO at ho3
          obtain ⟨la3, lc3, ka3, kc3, c1, c2, rfl, -, -, -⟩ := ho3
          have HRO2 := Lib.hid (HRO.out.same hb2)
          have HB2 := Lib.hid hb2
          have HO2 := Lib.hid ho2
          have HN2 := Lib.hid (show _ ∧ _ from ⟨hn2, hbs2⟩)
          have hz2 : w.heap.size ≤ w2.heap.size := Nat.le_trans hzr hb2.size
          clear hb2 ho2 hn2 hbs2 g0 g1 g2 g3 g4 g5
          go_wp2_with (at_builtin; refine wpList_append_lies _ rfl _ _ 23 rfl w.heap.size 26 iV _ 6 88 Try.underlying23 siV szV s1V s2V rfl (by omega) (.slice a j c0) j cl rfl (HRO2.out.own.alloc _) ⟨w2.heap.size, 0, none⟩ 1 1 [.int .i64 k2, .bool b2, .int .i64 i2, .string s2, .slice la3 l2.length lc3, .slice ka3 ks2.length kc3] rfl rfl (World.news_of_block (cs := #[.int .i64 k2, .bool b2, .int .i64 i2, .string s2, .slice la3 l2.length lc3, .slice ka3 ks2.length kc3]) (t := 26) (fr := (0, 0)) (Block.new w2 [.int .i64 k2, .bool b2, .int .i64 i2, .string s2, .slice la3 l2.length lc3, .slice ka3 ks2.length kc3] 26)) (by simp [Value.oneCell']) (by omega) (by unfold maxLen; omega) (by omega) (by simp; omega) (w2.heap.size + 1) (by simp) ?_)
          intro g cap w3 hown hgrow hat hlt3
          have HROS := Lib.hid (RowO.step HRO.out HB2.out hzr HO2.out HN2.out.1 HN2.out.2 hown hgrow rfl hat)
          have HB3 : Hid (Below w.heap.size w w3) := Lib.hid (Below.grown ((HBR.out.trans (HB2.out.mono hzr)).alloc hz2 _) hgrow (by simp; omega) (fun k e => (HRO2.out.own.lt k e).1))
          clear hown hgrow hat hlt3
          go_wp2_with fail
          go_roundw
          case rel => exact ⟨j + 1, _, _, _, _, rfl, by go_num, by omega, Lib.hid (by rw [take_succ_some HTJ.out]; exact HROS.out), HB3⟩
          case measure => simp [intOf]; omega
        · skip
          obtain ⟨wq, rfl⟩ : ∃ x, x = wr := ⟨_, rfl⟩
          have hlt' : ¬ (j : Int) < m := by omega
          have hjm : m = j := by omega
          subst hjm
          have HRN : Hid (RowO w.heap.size wq (.slice a m c0) m cl ts bs) := Lib.hid (by have := HRO.out; rwa [List.take_of_length_le (by have := HM.out; omega)] at this)
          clear HRO
          obtain ⟨la, lc, b3, lb, cur, ty, hv9, hc9, hz9, hvs9, hn9, hr9, hlb9, hos9⟩ := HRN.out.list
          rw [HM.out] at hv9 hc9
          injection hv9 with e1 e2 e3
          subst e1 e3
          clear e2 HRN
          have HVS := Lib.hid hvs9
          have HR9 := Lib.hid (show _ ∧ _ ∧ _ from ⟨hn9, hr9, hlb9⟩)
          have HOS := Lib.hid hos9
          clear hvs9 hn9 hr9 hlb9 hos9
          have HKr : Hid (StrRow B wq na ks) := Lib.hid (HK.out.below HBR.out hB)
          go_wp2_with (at_builtin; refine append_cells rfl _ _ 22 rfl wq.heap.size 9 iS (.string ⟨#[]⟩) 16 Try.underlying22 siS szS s1S s2S rfl (.slice (some ⟨wq.heap.size, 0, none⟩) 0 0) 0 [] rfl (World.ownsRow_lit wq #[] 0 (Nat.le_refl _) (by decide) rfl) na n nc B (ks.map Value.string) rfl hnz (by rw [List.length_map]; exact HN.out) (HK.out.below (HBR.out.alloc HBR.out.size _) hB) ?c2 ?c3 ?c4 (by simp) ?_)
          case c2 => intro q _; rfl
          case c3 => unfold maxLen; omega
          case c4 => omega
          intro v5 w5 hown5 hg5
          have hB5 : Below wq.heap.size wq w5 := ((Below.refl _ _).alloc (Nat.le_refl _) _).grown hg5 (by simp) (fun k e => by simp [Value.ownBlock] at e; omega)
          rw [← HN.out] at hown5
          obtain ⟨ka5, kc5, bk5, rfl, -, -, -, g4, g5⟩ := OwnStr.of_own hown5
          unfold maxLen at g5
          have HS5 : Hid (StrRow w5.heap.size w5 ka5 ks) := Lib.hid (own_cells_of hown5)
          rw [HN.out] at g5
          have HV5 := Lib.hid ((HVS.out.below hB5 (Nat.le_refl _)).mono hB5.size)
          have HMP := Lib.hid (HM1.out w5 ka5 a kc5 c0 HS5.out HV5.out ⟨g5.1, by omega⟩ hc9)
          have HB5 := Lib.hid hB5
          clear hown5 hg5 hB5 HS5 HV5 HKr
          rw [HN.out]
          go_wp2_with fail
          refine HMP.out.mono ?_
          rintro e w6 ⟨hb6, cs6, bs6, rfl, ho6, hn6, hr6⟩
          clear HMP
          have ho := ho6
          rw [← HTT.out] at ho
          unfold IsO at ho
          obtain ⟨la6, lc6, ka6, kc6, b16, b26, rfl, -, -, -, -⟩ := ho
          have HO6 := Lib.hid ho6
          have HR6 := Lib.hid (show _ ∧ _ from ⟨hn6, hr6⟩)
          have HB6 := Lib.hid hb6
          clear ho6 hn6 hr6 hb6
          obtain ⟨W7, hW7⟩ : ∃ X, w6.alloc (.cells #[.int .i64 kT, .bool bT, .int .i64 iT, .string sT, .slice la6 lT.length lc6, .slice ka6 ksT.length kc6] 26) = X := ⟨_, rfl⟩
          have HBW7 : Hid (Below w6.heap.size w6 W7) := Lib.hid (by rw [← hW7]; exact (Below.refl _ _).alloc (Nat.le_refl _) _)
          have HZW7 : Hid (W7.heap.size = w6.heap.size + 1) := Lib.hid (by rw [← hW7]; simp)
          have HXW7 : Hid (Block W7 w6.heap.size [.int .i64 kT, .bool bT, .int .i64 iT, .string sT, .slice la6 lT.length lc6, .slice ka6 ksT.length kc6] 26) := Lib.hid (by rw [← hW7]; exact Block.new _ _ _)
          have HW7 := Lib.hid hW7
          clear hW7
          have HBA : Hid (Below wq.heap.size wq W7) := Lib.hid ((HB5.out.trans (HB6.out.mono HB5.out.size)).trans (HBW7.out.mono (Nat.le_trans HB5.out.size HB6.out.size)))
          have HBB : Hid (Below w.heap.size w W7) := Lib.hid (HBR.out.trans (HBA.out.mono HBR.out.size))
          go_wp2_with fail
          rw [HW7.out]
          refine (HM2.out W7 HBB.out).mono ?_
          rintro e w8 ⟨hb8, cs8, rfl, hl8⟩
          have hv8 := hl8.isV
          rw [← HTT.out] at hv8
          unfold IsV at hv8
          obtain ⟨la8, lc8, ka8, kc8, rfl, -, -, -, -, -, -, -, -⟩ := hv8
          have HL8 := Lib.hid hl8
          have HB8 := Lib.hid hb8
          clear hl8 hb8
          obtain ⟨W9, hW9⟩ : ∃ X, w8.alloc (.cells #[.int .i64 kT, .bool bT, .int .i64 iT, .string sT, .slice la8 lT.length lc8, .slice ka8 ksT.length kc8] 26) = X := ⟨_, rfl⟩
          have HBW9 : Hid (Below w8.heap.size w8 W9) := Lib.hid (by rw [← hW9]; exact (Below.refl _ _).alloc (Nat.le_refl _) _)
          have HZW9 : Hid (W9.heap.size = w8.heap.size + 1) := Lib.hid (by rw [← hW9]; simp)
          have HXW9 : Hid (Block W9 w8.heap.size [.int .i64 kT, .bool bT, .int .i64 iT, .string sT, .slice la8 lT.length lc8, .slice ka8 ksT.length kc8] 26) := Lib.hid (by rw [← hW9]; exact Block.new _ _ _)
          have HW9 := Lib.hid hW9
          clear hW9
          have HX79 : Hid (Block W9 w6.heap.size [.int .i64 kT, .bool bT, .int .i64 iT, .string sT, .slice la6 lT.length lc6, .slice ka6 ksT.length kc6] 26) := Lib.hid ((HXW7.out.below HB8.out HXW7.out.lt).below HBW9.out (by have := HXW7.out.lt; have := HB8.out.size; omega))
          have HB79 : Hid (Below W7.heap.size W7 W9) := Lib.hid (HB8.out.trans (HBW9.out.mono HB8.out.size))
          have HO9 : Hid (IsO W9 [.int .i64 kT, .bool bT, .int .i64 iT, .string sT, .slice la6 lT.length lc6, .slice ka6 ksT.length kc6] T bs6) := Lib.hid (IsO.same _ _ _ HO6.out fun q hq => by have h := (HR6.out.2 q hq).2; rw [HB79.out.block q (by have := HZW7.out; omega), HBW7.out.block q h])
          have HL9 : Hid (LiesV W7.heap.size W9 [.int .i64 kT, .bool bT, .int .i64 iT, .string sT, .slice la8 lT.length lc8, .slice ka8 ksT.length kc8] T) := Lib.hid (HL8.out.step HBW9.out.size fun q _ h => HBW9.out.block q h)
          have HSA := Lib.hid (HSM.out _ _ W9.heap.size W9 T (IsO.isV _ _ _ HO9.out fun q hq => by have h := (HR6.out.2 q hq).2; have := HZW7.out; have := HB79.out.size; omega) HL9.out.isV (Nat.le_refl _))
          have x0 := HX79.out.cell (i := 0) rfl
          have x1 := HX79.out.cell (i := 1) rfl
          have x2 := HX79.out.cell (i := 2) rfl
          have x3 := HX79.out.cell (i := 3) rfl
          have x4 := HX79.out.cell (i := 4) rfl
          have x5 := HX79.out.cell (i := 5) rfl
          have y0 := HXW9.out.cell (i := 0) rfl
          have y1 := HXW9.out.cell (i := 1) rfl
          have y2 := HXW9.out.cell (i := 2) rfl
          have y3 := HXW9.out.cell (i := 3) rfl
          have y4 := HXW9.out.cell (i := 4) rfl
          have y5 := HXW9.out.cell (i := 5) rfl
          rw [← HW9.out] at x0 x1 x2 x3 x4 x5 y0 y1 y2 y3 y4 y5
          go_wp2_with fail
          rw [HW9.out]
          refine HSA.out.mono ?_
          rintro e w10 ⟨rfl, hb10⟩
          clear x0 x1 x2 x3 x4 x5 y0 y1 y2 y3 y4 y5
          have HB10 := Lib.hid hb10
          have HB7T : Hid (Below W7.heap.size W7 w10) := Lib.hid (HB79.out.trans (hb10.mono HB79.out.size))
          have HBT : Hid (Below w.heap.size w w10) := Lib.hid (HBB.out.trans (HB7T.out.mono HBB.out.size))
          have HBRT : Hid (Below wq.heap.size wq w10) := Lib.hid (HBA.out.trans (HB7T.out.mono HBA.out.size))
          have HXM : Hid (Block w10 w6.heap.size [.int .i64 kT, .bool bT, .int .i64 iT, .string sT, .slice la6 lT.length lc6, .slice ka6 ksT.length kc6] 26) := Lib.hid (HX79.out.below hb10 HX79.out.lt)
          have HXN : Hid (Block w10 w8.heap.size [.int .i64 kT, .bool bT, .int .i64 iT, .string sT, .slice la8 lT.length lc8, .slice ka8 ksT.length kc8] 26) := Lib.hid (HXW9.out.below hb10 HXW9.out.lt)
          have HOM : Hid (IsO w10 [.int .i64 kT, .bool bT, .int .i64 iT, .string sT, .slice la6 lT.length lc6, .slice ka6 ksT.length kc6] T bs6) := Lib.hid (IsO.same _ _ _ HO9.out fun q hq => hb10.block q (by have h := (HR6.out.2 q hq).2; have := HZW7.out; have := HB79.out.size; omega))
          have HLN : Hid (LiesV W7.heap.size w10 [.int .i64 kT, .bool bT, .int .i64 iT, .string sT, .slice la8 lT.length lc8, .slice ka8 ksT.length kc8] T) := Lib.hid (HL9.out.step hb10.size fun q _ h => hb10.block q h)
          have HS0 : Hid (wq.heap.size ≤ w5.heap.size ∧ w5.heap.size ≤ w6.heap.size ∧ W7.heap.size = w6.heap.size + 1 ∧ W7.heap.size ≤ w8.heap.size ∧ W9.heap.size = w8.heap.size + 1 ∧ W9.heap.size ≤ w10.heap.size ∧ w.heap.size ≤ wq.heap.size) := Lib.hid ⟨HB5.out.size, HB6.out.size, HZW7.out, HB8.out.size, HZW9.out, hb10.size, HBR.out.size⟩
          clear hb10 HX79 HB79 HO9 HL9 HSA HXW9 HXW7 HO6 HL8
          go_wp2_with fail
          have HOS0 : Hid (IsOs w10 cur 0 ts b3) := Lib.hid (IsOs.same ts (fun _ t _ cs bs h hb => IsO.same t cs bs h hb) _ _ _ HOS.out fun q hq => HBRT.out.block q (HR9.out.2.1 q hq).2)
          have HBL0 : Hid (ts ≠ [] → a = some ⟨lb, 0, none⟩ ∧ Block w10 lb cur ty ∧ lb ∉ b3) := Lib.hid (fun h => ⟨(HR9.out.2.2 h).1, (HR9.out.2.2 h).2.1.below HBRT.out (HR9.out.2.2 h).2.1.lt, (HR9.out.2.2 h).2.2⟩)
          go_loopw [14] (fun iv wr => ∃ (j : Nat) (b4 : List Nat), iv = .int .i64 j ∧ j ≤ m ∧ Hid (Kept b3 w10 wr) ∧ Hid (IsOs wr cur j (ts.drop j) b4) ∧ Hid (b4.Nodup ∧ ∀ q ∈ b4, q ∈ b3)) (fun iv _ => m - (intOf iv).toNat)
          case atStart => exact ⟨0, b3, rfl, Nat.zero_le _, Lib.hid (Kept.refl _ _), Lib.hid HOS0.out, Lib.hid ⟨HR9.out.1, fun _ h => h⟩⟩
          case round =>
            obtain ⟨j, b4, rfl, hj3, HKZ, HO3, HB4⟩ := hrel
            by_cases hl3 : j < m
            · skip
              have hl3' : (j : Int) < m := by omega
              have hj0 : (0 : Int) ≤ (j : Int) := by omega
              have hne : ts ≠ [] := by rintro rfl; have := HM.out; simp at this; omega
              obtain ⟨hla, hblk, hlb3⟩ := HBL0.out hne
              subst hla
              obtain ⟨t, ht⟩ := get_some (l := ts) (j := j) (by have := HM.out; omega)
              have ho := HO3.out
              rw [drop_some ht] at ho
              obtain ⟨cs2, b5, b6, hb56, hcs, ht2, hrest⟩ := ho.bs_mem
              have hnd4 := HB4.out.1
              rw [hb56] at hnd4
              obtain ⟨hn5, hn6, hn56⟩ := List.nodup_append.1 hnd4
              have hm5 : ∀ q ∈ b5, q ∈ b3 := fun q hq => HB4.out.2 q (by rw [hb56]; simp [hq])
              have hm6 : ∀ q ∈ b6, q ∈ b3 := fun q hq => HB4.out.2 q (by rw [hb56]; simp [hq])
              have hl5 : ∀ q ∈ b3, q < w10.heap.size := fun q hq => by have := (HR9.out.2.1 q hq).2; have := HBRT.out.size; omega
              have HSP := Lib.hid (spoil_any t cs2 b5 wr ht2 hn5 (fun q hq => by have := hl5 q (hm5 q hq); have := HKZ.out.size; omega))
              obtain ⟨k2, bb2, i2, s2, l2, ks2⟩ := t
              have ht3 := ht2
              unfold IsO at ht3
              obtain ⟨la2, lc2, ka2, kc2, x1, x2, rfl, -, -, -, -⟩ := ht3
              have hbl : Block wr lb cur ty := hblk.of_heap (HKZ.out.block _ hblk.lt hlb3)
              have g0 := hbl.cell (hcs 0 _ rfl)
              have g1 := hbl.cell (hcs 1 _ rfl)
              have g2 := hbl.cell (hcs 2 _ rfl)
              have g3 := hbl.cell (hcs 3 _ rfl)
              have g4 := hbl.cell (hcs 4 _ rfl)
              have g5 := hbl.cell (hcs 5 _ rfl)
              rw [Nat.add_zero] at g0
              have HRE := Lib.hid hrest
              have HNN := Lib.hid (show _ ∧ _ ∧ _ ∧ _ ∧ _ from ⟨hn6, hn56, hm5, hm6, hl5⟩)
              clear ho hcs ht2 hrest hnd4 hn5 hn6 hn56 hm5 hm6 hl5 hb56 ht hblk hbl
              go_wp2_with fail
              refine HSP.out.mono ?_
              rintro e w21 ⟨rfl, hk21⟩
              have HK21 := Lib.hid hk21
              clear g0 g1 g2 g3 g4 g5 hk21
              go_wp2_with fail
              go_roundw
              case rel => exact ⟨j + 1, b6, by go_num, by omega, Lib.hid (HKZ.out.trans (HK21.out.mono fun q hq => HNN.out.2.2.1 q hq) fun x hx => .inl hx), Lib.hid (IsOs.same _ (fun _ t _ cs bs h hb => IsO.same t cs bs h hb) _ _ _ HRE.out fun q hq => HK21.out.block q (by have := HNN.out.2.2.2.2 q (HNN.out.2.2.2.1 q hq); have := HKZ.out.size; omega) (fun h => HNN.out.2.1 q h q hq rfl)), Lib.hid ⟨HNN.out.1, HNN.out.2.2.2.1⟩⟩
              case measure => simp [intOf]; omega
            · skip
              have hl3' : ¬ (j : Int) < m := by omega
              have HB3 : Hid (∀ q ∈ b3, w.heap.size ≤ q ∧ q < wq.heap.size) := Lib.hid HR9.out.2.1
              have HBZ0 : Hid (Below w.heap.size w10 wr) := Lib.hid (HKZ.out.below (fun q hq => (HB3.out q hq).1) (by have := HS0.out; omega))
              have HBWZ : Hid (Below w.heap.size w wr) := Lib.hid (HBT.out.trans HBZ0.out)
              have hno : ∀ q, wq.heap.size ≤ q → q ∉ b3 := fun q h1 h2 => by have := (HB3.out q h2).2; omega
              have HXMz : Hid (Block wr w6.heap.size [.int .i64 kT, .bool bT, .int .i64 iT, .string sT, .slice la6 lT.length lc6, .slice ka6 ksT.length kc6] 26) := Lib.hid (HXM.out.of_heap (HKZ.out.block _ HXM.out.lt (hno _ (by have := HS0.out; omega))))
              have HXNz : Hid (Block wr w8.heap.size [.int .i64 kT, .bool bT, .int .i64 iT, .string sT, .slice la8 lT.length lc8, .slice ka8 ksT.length kc8] 26) := Lib.hid (HXN.out.of_heap (HKZ.out.block _ HXN.out.lt (hno _ (by have := HS0.out; omega))))
              have HR6' : Hid (∀ q ∈ bs6, wq.heap.size ≤ q ∧ q < w10.heap.size) := Lib.hid (fun q hq => by have := HR6.out.2 q hq; have := HS0.out; omega)
              have HOMz : Hid (IsO wr [.int .i64 kT, .bool bT, .int .i64 iT, .string sT, .slice la6 lT.length lc6, .slice ka6 ksT.length kc6] T bs6) := Lib.hid (IsO.same _ _ _ HOM.out fun q hq => HKZ.out.block q (HR6'.out q hq).2 (hno q (HR6'.out q hq).1))
              have HLNz : Hid (LiesV W7.heap.size wr [.int .i64 kT, .bool bT, .int .i64 iT, .string sT, .slice la8 lT.length lc8, .slice ka8 ksT.length kc8] T) := Lib.hid (HLN.out.step HKZ.out.size fun q h1 h2 => HKZ.out.block q h2 (hno q (by have := HS0.out; omega)))
              have hzz := HKZ.out.size
              have HVM := Lib.hid (IsO.isV (B := wr.heap.size) _ _ _ HOMz.out fun q hq => by have := (HR6'.out q hq).2; omega)
              have HGA := Lib.hid (HG1.out _ wr.heap.size wr HVM.out (Nat.le_refl _))
              have x0 := HXMz.out.cell (i := 0) rfl
              have x1 := HXMz.out.cell (i := 1) rfl
              have x2 := HXMz.out.cell (i := 2) rfl
              have x3 := HXMz.out.cell (i := 3) rfl
              have x4 := HXMz.out.cell (i := 4) rfl
              have x5 := HXMz.out.cell (i := 5) rfl
              go_wp2_with fail
              refine HGA.out.mono ?_
              rintro e w12 ⟨hb12, cs12, bs12, rfl, ho12, hn12, hr12⟩
              clear x0 x1 x2 x3 x4 x5
              have ho := ho12
              rw [← HUU.out] at ho
              unfold IsO at ho
              obtain ⟨la2, lc2, ka2, kc2, b12, b22, rfl, -, -, -, -⟩ := ho
              have HO12 := Lib.hid ho12
              have HR12 := Lib.hid (show _ ∧ _ from ⟨hn12, hr12⟩)
              have HB12 := Lib.hid hb12
              clear ho12 hn12 hr12 hb12
              obtain ⟨W13, hW13⟩ : ∃ X, w12.alloc (.cells #[.int .i64 kU, .bool bU, .int .i64 iU, .string sU, .slice la2 lU.length lc2, .slice ka2 ksU.length kc2] 26) = X := ⟨_, rfl⟩
              have HBW13 : Hid (Below w12.heap.size w12 W13) := Lib.hid (by rw [← hW13]; exact (Below.refl _ _).alloc (Nat.le_refl _) _)
              have HZW13 : Hid (W13.heap.size = w12.heap.size + 1) := Lib.hid (by rw [← hW13]; simp)
              have HXW13 : Hid (Block W13 w12.heap.size [.int .i64 kU, .bool bU, .int .i64 iU, .string sU, .slice la2 lU.length lc2, .slice ka2 ksU.length kc2] 26) := Lib.hid (by rw [← hW13]; exact Block.new _ _ _)
              have HW13 := Lib.hid hW13
              clear hW13
              have HBz13 : Hid (Below wr.heap.size wr W13) := Lib.hid (HB12.out.trans (HBW13.out.mono HB12.out.size))
              have HXN13 := Lib.hid (HXNz.out.below HBz13.out HXNz.out.lt)
              have HLN13 : Hid (LiesV W7.heap.size W13 [.int .i64 kT, .bool bT, .int .i64 iT, .string sT, .slice la8 lT.length lc8, .slice ka8 ksT.length kc8] T) := Lib.hid (HLNz.out.step HBz13.out.size fun q _ h2 => HBz13.out.block q h2)
              have HGB := Lib.hid (HG2.out _ W13.heap.size W13 HLN13.out.isV (Nat.le_refl _))
              have y0 := HXN13.out.cell (i := 0) rfl
              have y1 := HXN13.out.cell (i := 1) rfl
              have y2 := HXN13.out.cell (i := 2) rfl
              have y3 := HXN13.out.cell (i := 3) rfl
              have y4 := HXN13.out.cell (i := 4) rfl
              have y5 := HXN13.out.cell (i := 5) rfl
              rw [← HW13.out] at y0 y1 y2 y3 y4 y5
              go_wp2_with fail
              rw [HW13.out]
              refine HGB.out.mono ?_
              rintro e w14 ⟨hb14, cs14, bs14, rfl, ho14, hn14, hr14⟩
              clear y0 y1 y2 y3 y4 y5
              have ho := ho14
              rw [← HUU.out] at ho
              unfold IsO at ho
              obtain ⟨la4, lc4, ka4, kc4, b14, b24, rfl, -, -, -, -⟩ := ho
              have HO14 := Lib.hid ho14
              have HR14 := Lib.hid (show _ ∧ _ from ⟨hn14, hr14⟩)
              have HB14 := Lib.hid hb14
              clear ho14 hn14 hr14 hb14
              obtain ⟨W15, hW15⟩ : ∃ X, w14.alloc (.cells #[.int .i64 kU, .bool bU, .int .i64 iU, .string sU, .slice la4 lU.length lc4, .slice ka4 ksU.length kc4] 26) = X := ⟨_, rfl⟩
              have HBW15 : Hid (Below w14.heap.size w14 W15) := Lib.hid (by rw [← hW15]; exact (Below.refl _ _).alloc (Nat.le_refl _) _)
              have HZW15 : Hid (W15.heap.size = w14.heap.size + 1) := Lib.hid (by rw [← hW15]; simp)
              have HXW15 : Hid (Block W15 w14.heap.size [.int .i64 kU, .bool bU, .int .i64 iU, .string sU, .slice la4 lU.length lc4, .slice ka4 ksU.length kc4] 26) := Lib.hid (by rw [← hW15]; exact Block.new _ _ _)
              have HW15 := Lib.hid hW15
              clear hW15
              have HB1315 : Hid (Below W13.heap.size W13 W15) := Lib.hid (HB14.out.trans (HBW15.out.mono HB14.out.size))
              have HBz15 : Hid (Below wr.heap.size wr W15) := Lib.hid (HBz13.out.trans (HB1315.out.mono HBz13.out.size))
              have HX13 := Lib.hid (HXW13.out.below HB1315.out HXW13.out.lt)
              have HO15 : Hid (IsO W15 [.int .i64 kU, .bool bU, .int .i64 iU, .string sU, .slice la2 lU.length lc2, .slice ka2 ksU.length kc2] T2 bs12) := Lib.hid (IsO.same _ _ _ HO12.out fun q hq => by have h := (HR12.out.2 q hq).2; rw [HB1315.out.block q (by have := HZW13.out; omega), HBW13.out.block q h])
              have HP15 : Hid (IsO W15 [.int .i64 kU, .bool bU, .int .i64 iU, .string sU, .slice la4 lU.length lc4, .slice ka4 ksU.length kc4] T2 bs14) := Lib.hid (IsO.same _ _ _ HO14.out fun q hq => HBW15.out.block q (HR14.out.2 q hq).2)
              have HS1 : Hid (wr.heap.size ≤ w12.heap.size ∧ W13.heap.size = w12.heap.size + 1 ∧ W13.heap.size ≤ w14.heap.size ∧ W15.heap.size = w14.heap.size + 1) := Lib.hid ⟨HB12.out.size, HZW13.out, HB14.out.size, HZW15.out⟩
              have HSB := Lib.hid (HSM.out _ _ W15.heap.size W15 T2 (IsO.isV _ _ _ HO15.out fun q hq => by have h := (HR12.out.2 q hq).2; have := HS1.out; omega) (IsO.isV _ _ _ HP15.out fun q hq => by have h := (HR14.out.2 q hq).2; have := HS1.out; omega) (Nat.le_refl _))
              have x0 := HX13.out.cell (i := 0) rfl
              have x1 := HX13.out.cell (i := 1) rfl
              have x2 := HX13.out.cell (i := 2) rfl
              have x3 := HX13.out.cell (i := 3) rfl
              have x4 := HX13.out.cell (i := 4) rfl
              have x5 := HX13.out.cell (i := 5) rfl
              have y0 := HXW15.out.cell (i := 0) rfl
              have y1 := HXW15.out.cell (i := 1) rfl
              have y2 := HXW15.out.cell (i := 2) rfl
              have y3 := HXW15.out.cell (i := 3) rfl
              have y4 := HXW15.out.cell (i := 4) rfl
              have y5 := HXW15.out.cell (i := 5) rfl
              rw [← HW15.out] at x0 x1 x2 x3 x4 x5 y0 y1 y2 y3 y4 y5
              go_wp2_with fail
              rw [HW15.out]
              refine HSB.out.mono ?_
              rintro e w16 ⟨rfl, hb16⟩
              clear x0 x1 x2 x3 x4 x5 y0 y1 y2 y3 y4 y5
              have HX16 := Lib.hid (HX13.out.below hb16 HX13.out.lt)
              have HBz16 : Hid (Below wr.heap.size wr w16) := Lib.hid (HBz15.out.trans (hb16.mono HBz15.out.size))
              have HO16 : Hid (IsO w16 [.int .i64 kU, .bool bU, .int .i64 iU, .string sU, .slice la2 lU.length lc2, .slice ka2 ksU.length kc2] T2 bs12) := Lib.hid (IsO.same _ _ _ HO15.out fun q hq => hb16.block q (by have h := (HR12.out.2 q hq).2; have := HS1.out; omega))
              have hz16 := hb16.size
              have HSP := Lib.hid (spoil_any T2 _ bs12 w16 HO16.out HR12.out.1 (fun q hq => by have h := (HR12.out.2 q hq).2; have := HS1.out; omega))
              clear hb16
              have x0 := HX16.out.cell (i := 0) rfl
              have x1 := HX16.out.cell (i := 1) rfl
              have x2 := HX16.out.cell (i := 2) rfl
              have x3 := HX16.out.cell (i := 3) rfl
              have x4 := HX16.out.cell (i := 4) rfl
              have x5 := HX16.out.cell (i := 5) rfl
              go_wp2_with fail
              refine HSP.out.mono ?_
              rintro e w17 ⟨rfl, hk17⟩
              clear x0 x1 x2 x3 x4 x5
              have HBz17 : Hid (Below wr.heap.size wr w17) := Lib.hid (HBz16.out.trans (hk17.below (fun q hq => (HR12.out.2 q hq).1) HBz16.out.size))
              clear hk17
              have HXM17 := Lib.hid (HXMz.out.below HBz17.out HXMz.out.lt)
              have HXN17 := Lib.hid (HXNz.out.below HBz17.out HXNz.out.lt)
              have HSC := Lib.hid (HSM.out _ _ w17.heap.size w17 T ((IsV.below HBz17.out (Nat.le_refl _) _ _ HVM.out).mono HBz17.out.size _ _) (HLNz.out.step HBz17.out.size fun q _ h2 => HBz17.out.block q h2).isV (Nat.le_refl _))
              have x0 := HXM17.out.cell (i := 0) rfl
              have x1 := HXM17.out.cell (i := 1) rfl
              have x2 := HXM17.out.cell (i := 2) rfl
              have x3 := HXM17.out.cell (i := 3) rfl
              have x4 := HXM17.out.cell (i := 4) rfl
              have x5 := HXM17.out.cell (i := 5) rfl
              have y0 := HXN17.out.cell (i := 0) rfl
              have y1 := HXN17.out.cell (i := 1) rfl
              have y2 := HXN17.out.cell (i := 2) rfl
              have y3 := HXN17.out.cell (i := 3) rfl
              have y4 := HXN17.out.cell (i := 4) rfl
              have y5 := HXN17.out.cell (i := 5) rfl
              go_wp2_with fail
              refine HSC.out.mono ?_
              rintro e w18 ⟨rfl, hb18⟩
              clear x0 x1 x2 x3 x4 x5 y0 y1 y2 y3 y4 y5
              have HB18 : Hid (Below w.heap.size w w18) := Lib.hid ((HBWZ.out.trans (HBz17.out.mono HBWZ.out.size)).trans (hb18.mono (by have := HBWZ.out.size; have := HBz17.out.size; omega)))
              clear hb18
              have HBZ := Lib.hid (HB18.out)
              go_wp2_with fail
              refine (HWK.out _).mono ?_
              rintro e w99 ⟨rfl, hb99⟩
              have HBY := Lib.hid (below_step HBZ.out rfl hb99)
              clear hb99
              go_wp2_with fail
              go_ret
              exact ⟨by rfl, HBY.out⟩
end Go.Proofs.Ytdkgjbjlpofieaa

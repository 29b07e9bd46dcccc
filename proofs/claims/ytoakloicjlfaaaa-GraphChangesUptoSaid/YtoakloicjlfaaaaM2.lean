/- The texts RowO, Spoil, Same, G1, G2, J, G3, G4, G5, G6, G7, G8, G9, Ord of this seat, one behind the other. Conditions: each says its own. -/
import Derived.Deep.RegionHeld3
import Derived.BigQuiet
import Derived.Test.YtoakloicjlfaaaaM1

/- Rows of values of their own memory that grow by append. Conditions: none. -/
namespace Go.Proofs.Ytoakloicjlfaaaa
open Go.RowKit
set_option linter.unusedSimpArgs false
set_option linter.unusedVariables false

/-- A row of the call's own (all of it from block B on), whose elements lie in blocks of their own. -/
structure RowO (B : Nat) (wr : World) (lv : Value) (j : Nat) (cl : List Value) (l : List Vt) (bs : List Nat) : Prop where
  own : wr.ownsRow B 71 6 lv j cl
  os : IsOs wr cl 0 l bs
  nd : bs.Nodup
  lt : ∀ b ∈ bs, B ≤ b ∧ b < wr.heap.size
  ne : ∀ b ∈ bs, lv.ownBlock ≠ some b
  len : l.length = j
theorem RowO.nil (B : Nat) (wr : World) : RowO B wr (.slice none 0 0) 0 [] [] [] :=
  ⟨⟨rfl, .inl ⟨rfl, rfl⟩⟩, by unfold IsOs; rfl, List.nodup_nil, by simp, by simp, rfl⟩
theorem RowO.same {B : Nat} {wr w' : World} {lv : Value} {j : Nat} {cl : List Value} {l : List Vt} {bs : List Nat} (h : RowO B wr lv j cl l bs) (hb : Below wr.heap.size wr w') : RowO B w' lv j cl l bs :=
  ⟨own_of_heap h.own fun k e => hb.block k (h.own.lt k e).2, IsOs.same l (fun _ t _ cs bs h hb => IsO.same t cs bs h hb) _ _ _ h.os fun b hb' => hb.block b (h.lt b hb').2, h.nd, fun b hb' => ⟨(h.lt b hb').1, Nat.lt_of_lt_of_le (h.lt b hb').2 hb.size⟩, h.ne, h.len⟩
theorem RowO.step {B : Nat} {wr w2 w3 : World} {lv v : Value} {j g : Nat} {cl cs : List Value} {l : List Vt} {bs bs2 : List Nat} {t : Vt} {Y : Obj} (h : RowO B wr lv j cl l bs) (hb : Below wr.heap.size wr w2) (hBw : B ≤ wr.heap.size)
    (ho : IsO w2 cs t bs2) (hn : bs2.Nodup) (hr : ∀ b ∈ bs2, wr.heap.size ≤ b ∧ b < w2.heap.size) (hown : w3.ownsRow B 71 6 v (j + 1) (cl ++ cs)) (hg : (w2.alloc Y).grownBy w3 lv.ownBlock)
    (hv : v.ownBlock = some g) (hat : lv.ownBlock = some g ∨ g = w2.heap.size + 1) : RowO B w3 v (j + 1) (cl ++ cs) (l ++ [t]) (bs ++ bs2) := by
  have hL : ∀ b, lv.ownBlock = some b → B ≤ b ∧ b < wr.heap.size := h.own.lt
  have hz := hb.size
  have hgz : w2.heap.size + 1 ≤ w3.heap.size := by have := hg.size; simpa using this
  have hk : ∀ b, b < w2.heap.size → lv.ownBlock ≠ some b → w3.heap[b]? = w2.heap[b]? := fun b hb hn => by
    rw [hg.block b (by simp; omega) (fun e => hn e.symm)]
    exact Below.heap_alloc _ _ _ hb
  have hk1 : ∀ b ∈ bs, w3.heap[b]? = wr.heap[b]? := fun b hm => by
    rw [hk b (by have := (h.lt b hm).2; omega) (h.ne b hm)]
    exact hb.block b (h.lt b hm).2
  have hk2 : ∀ b ∈ bs2, w3.heap[b]? = w2.heap[b]? := fun b hm => hk b (hr b hm).2 (fun e => by have := (hL b e).2; have := (hr b hm).1; omega)
  have hlen : cl.length = l.length * 6 := by have := h.own.1; rw [h.len]; simpa using this
  refine ⟨hown, ?_, ?_, ?_, ?_, by simp [h.len]⟩
  · refine IsOs.snoc (IsO.same _ _ _ ho hk2) l _ _ _ (IsOs.cur l cl _ _ _ (IsOs.same l (fun _ t _ cs bs h hb => IsO.same t cs bs h hb) _ _ _ h.os hk1) (fun q _ hq => ?_)) (fun q v hv => ?_)
    · rw [List.getElem?_append_left (by omega)]
    · rw [List.getElem?_append_right (by omega), show (0 + l.length) * 6 + q - cl.length = q from by omega]
      exact hv
  · refine List.nodup_append.2 ⟨h.nd, hn, fun x hx y hy => ?_⟩
    have h1 := (h.lt x hx).2
    have h2 := (hr y hy).1
    omega
  · intro b hm
    rcases List.mem_append.1 hm with hm | hm
    · have := h.lt b hm; omega
    · have := hr b hm; omega
  · intro b hm e
    rw [hv] at e
    injection e with e
    subst e
    rcases List.mem_append.1 hm with hm | hm
    · rcases hat with e | e
      · exact h.ne _ hm e
      · have := (h.lt _ hm).2; omega
    · have h2 := hr _ hm
      rcases hat with e | e
      · have := (hL _ e).2; omega
      · omega
/-- Such a row as a part of a value. -/
theorem RowO.part {B : Nat} {wr : World} {lv : Value} {j : Nat} {cl : List Value} {l : List Vt} {bs : List Nat} (h : RowO B wr lv j cl l bs) :
    ∃ la lc b2, lv = .slice la j lc ∧ (j ≤ lc ∧ lc ≤ maxLen) ∧ (la = none → lc = 0) ∧ ((l = [] ∧ b2 = []) ∨ ∃ lb cur ty b3, la = some ⟨lb, 0, none⟩ ∧ b2 = lb :: b3 ∧ Block wr lb cur ty ∧ IsOs wr cur 0 l b3) ∧ b2.Nodup ∧ ∀ b ∈ b2, B ≤ b ∧ b < wr.heap.size := by
  obtain ⟨h1, h2⟩ := h.own
  rcases h2 with ⟨rfl, h3⟩ | ⟨g, cap, cur, rfl, hb, hh, hn, hm, hs, ht⟩
  · have hl : l = [] := List.eq_nil_of_length_eq_zero (by rw [h.len]; exact h3)
    refine ⟨none, 0, [], by rw [h3], ⟨by omega, by unfold maxLen; omega⟩, fun _ => rfl, .inl ⟨hl, rfl⟩, List.nodup_nil, by simp⟩
  · refine ⟨some ⟨g, 0, none⟩, cap, g :: bs, rfl, ⟨hn, hm⟩, (fun e => by cases e), .inr ⟨g, cur.toList, 71, bs, rfl, rfl, by unfold Block; simpa using hh, ?_⟩, List.nodup_cons.2 ⟨fun hm => h.ne g hm rfl, h.nd⟩, ?_⟩
    · refine IsOs.cur l cl _ _ _ h.os (fun q _ hq => ?_)
      rw [← ht, List.getElem?_take_of_lt (by rw [← h.len]; omega)]
    · intro b hm2
      rcases List.mem_cons.1 hm2 with rfl | hm2
      · exact ⟨hb, (Array.getElem?_eq_some_iff.1 hh).1⟩
      · exact h.lt b hm2
def RCopySaid (t : Vt) : Prop := ∀ (cs : List Value) (B : Nat) (w : World), IsV B w cs t → B ≤ w.heap.size → wtV t ≤ 1048576 → Calls Try.prog 87 #[.agg cs.toArray] w (CopyP t w)
set_option maxRecDepth 100000 in
set_option maxHeartbeats 4000000 in
theorem rcopy_any (t : Vt) : RCopySaid t := by
  refine t.down (p := RCopySaid) fun k b i s l ks ih cs B w hV hB hwt => ?_
  unfold IsV at hV
  obtain ⟨la, lc, ka, kc, rfl, hk64, hi64, ⟨hlc, hlm⟩, ⟨hkc, hkm⟩, hlz, hkz, hK, hL⟩ := hV
  have hln : l.length ≤ 1048576 := by have h1 := wtVs_len l; simp only [wtV] at hwt; omega
  have hkn : ks.length ≤ 1099511627776 := by have h1 := keys_len ks; simp only [wtV] at hwt; omega
  have IH := Lib.hid ih
  have HLs := Lib.hid hL
  have HKs := Lib.hid hK
  have HWT := Lib.hid hwt
  clear ih hL hK hwt
  show Calls Try.prog 87 #[.agg #[.int .i64 k, .bool b, .int .i64 i, .string s, .slice la l.length lc, .slice ka ks.length kc]] w _
  obtain ⟨iS, siS, szS, s1S, s2S⟩ := info_parts Try.infoStr
  obtain ⟨iV, siV, szV, s1V, s2V⟩ := info_parts Try.infoVal
  obtain ⟨W0, hW0⟩ : ∃ W0, (w.alloc (.cells #[.int .i64 k, .bool b, .int .i64 i, .string s, .slice la l.length lc, .slice ka ks.length kc] 71)).alloc (.cells zeroC.toArray 71) = W0 := ⟨_, rfl⟩
  have hBW : Below w.heap.size w W0 := by rw [← hW0]; exact ((Below.refl _ _).alloc (Nat.le_refl _) _).alloc (by simp) _
  have hX0 : Block W0 w.heap.size [.int .i64 k, .bool b, .int .i64 i, .string s, .slice la l.length lc, .slice ka ks.length kc] 71 := by rw [← hW0]; exact (Block.new w _ _).alloc _
  have hX1 : Block W0 (w.heap.size + 1) zeroC 71 := by
    rw [← hW0]
    have := Block.new (w.alloc (.cells #[.int .i64 k, .bool b, .int .i64 i, .string s, .slice la l.length lc, .slice ka ks.length kc] 71)) zeroC 71
    simpa using this
  have hz0 : w.heap.size + 2 = W0.heap.size := by rw [← hW0]; simp
  have HX0 := Lib.hid hX0
  have HX1 := Lib.hid hX1
  have HBW := Lib.hid hBW
  have HZ0 := Lib.hid hz0
  have HW0 := Lib.hid hW0
  clear hX0 hX1 hBW hz0 hW0
  go_enter Try.func87, Try.ntmps87
  go_wp2_with fail
  change Code.wp _ _ _ _ ((w.alloc (.cells #[.int .i64 k, .bool b, .int .i64 i, .string s, .slice la l.length lc, .slice ka ks.length kc] 71)).alloc (.cells zeroC.toArray 71))
  rw [HW0.out]
  go_loopw [3, 4] (fun lv iv wr => ∃ (j : Nat) (a : Option Addr) (c : Nat) (cl : List Value) (bs : List Nat), lv = .slice a j c ∧ iv = .int .i64 j ∧ j ≤ l.length ∧ Hid (RowO W0.heap.size wr (.slice a j c) j cl (l.take j) bs) ∧ Hid (Below W0.heap.size W0 wr)) (fun _ iv _ => l.length - (intOf iv).toNat)
  case atStart => exact ⟨0, none, 0, [], [], rfl, rfl, Nat.zero_le _, Lib.hid (RowO.nil _ _), Lib.hid (Below.refl _ _)⟩
  case round =>
    obtain ⟨j, a, c, cl, bs, rfl, rfl, hj, HRO, HBR⟩ := hrel
    have c4 := (HX0.out.below HBR.out HX0.out.lt).cell (i := 4) rfl
    by_cases hlt : j < l.length
    · have hlt' : (j : Int) < l.length := by omega
      have hj0 : (0 : Int) ≤ (j : Int) := by omega
      have hzr := HBR.out.size
      have hbr : Below w.heap.size w wr := HBW.out.trans (HBR.out.mono (by have := HZ0.out; omega))
      obtain ⟨t, ht⟩ := get_some hlt
      obtain ⟨eb, eo, k2, b2, i2, s2, l2, ks2, la2, lc2, ka2, kc2, rfl, rfl, heb, ⟨g0, g1, g2, g3, g4, g5⟩, hVt⟩ := (HLs.out.below hbr hB).at ht
      have HCO := Lib.hid (IH.out j _ ht _ B wr hVt (Nat.le_trans hB hbr.size) (by have h1 := wtVs_get ht; have := HWT.out; simp only [wtV] at this h1 ⊢; omega))
      have HTJ := Lib.hid ht
      clear ht hVt hbr
      go_wp2_with fail
      refine HCO.out.mono ?_
      rintro e w2 ⟨cs', bs', rfl, hb2, ho2, hn2, hbs2⟩
      have ho3 := ho2
      unfold IsO at ho3
      obtain ⟨la3, lc3, ka3, kc3, c1, c2, rfl, -, -, -⟩ := ho3
      have HRO2 := Lib.hid (HRO.out.same hb2)
      have HB2 := Lib.hid hb2
      have HO2 := Lib.hid ho2
      have HN2 := Lib.hid (show _ ∧ _ from ⟨hn2, hbs2⟩)
      have hz2 : W0.heap.size ≤ w2.heap.size := Nat.le_trans hzr hb2.size
      clear hb2 ho2 hn2 hbs2 g0 g1 g2 g3 g4 g5 c4
      go_wp2_with (at_builtin; refine wpList_append_lies _ rfl _ _ 36 rfl W0.heap.size 71 iV _ 6 88 Try.underlying36 siV szV s1V s2V rfl (by omega) (.slice a j c) j cl rfl (HRO2.out.own.alloc _) ⟨w2.heap.size, 0, none⟩ 1 1 [.int .i64 k2, .bool b2, .int .i64 i2, .string s2, .slice la3 l2.length lc3, .slice ka3 ks2.length kc3] rfl rfl (World.news_of_block (cs := #[.int .i64 k2, .bool b2, .int .i64 i2, .string s2, .slice la3 l2.length lc3, .slice ka3 ks2.length kc3]) (t := 71) (fr := (0, 0)) (Block.new w2 [.int .i64 k2, .bool b2, .int .i64 i2, .string s2, .slice la3 l2.length lc3, .slice ka3 ks2.length kc3] 71)) (by simp [Value.oneCell']) (by omega) (by unfold maxLen; omega) (by omega) (by simp; omega) (w2.heap.size + 1) (by simp) ?_)
      intro g cap w3 hown hgrow hat hlt3
      have HROS := Lib.hid (RowO.step HRO.out HB2.out hzr HO2.out HN2.out.1 HN2.out.2 hown hgrow rfl hat)
      have HB3 : Hid (Below W0.heap.size W0 w3) := Lib.hid (Below.grown ((HBR.out.trans (HB2.out.mono hzr)).alloc hz2 _) hgrow (by simp; omega) (fun k e => (HRO2.out.own.lt k e).1))
      clear hown hgrow hat hlt3
      go_wp2_with fail
      go_roundw
      case rel => exact ⟨j + 1, _, _, _, _, rfl, by go_num, by omega, Lib.hid (by rw [take_succ_some HTJ.out]; exact HROS.out), HB3⟩
      case measure => simp [intOf]; omega
    · have hlt' : ¬ (j : Int) < l.length := by omega
      have hjl : j = l.length := by omega
      have HRN : Hid (RowO W0.heap.size wr (.slice a j c) j cl l bs) := Lib.hid (by have := HRO.out; rwa [List.take_of_length_le (by omega)] at this)
      obtain ⟨la9, lc9, b29, hv9, hc9, hz9, hp9, hn9, hr9⟩ := HRN.out.part
      injection hv9 with e1 e2 e3
      subst e1 e3
      have X0r := HX0.out.below HBR.out HX0.out.lt
      have X1r := HX1.out.below HBR.out HX1.out.lt
      have hzr := HBR.out.size
      have hbr : Below w.heap.size w wr := HBW.out.trans (HBR.out.mono (by have := HZ0.out; omega))
      have c5 := X0r.cell (i := 5) rfl
      have HKr := Lib.hid (HKs.out.below hbr hB)
      have HPP := Lib.hid (show _ ∧ _ ∧ _ ∧ _ ∧ _ from ⟨hc9, hz9, hp9, hn9, hr9⟩)
      have HBr := Lib.hid hbr
      have HX0r := Lib.hid X0r
      have HX1r := Lib.hid X1r
      have HJL := Lib.hid hjl
      clear hc9 hz9 hp9 hn9 hr9 X0r X1r hbr hjl
      go_wp2_with (at_builtin; refine append_cells rfl _ _ 35 rfl wr.heap.size 9 iS (.string ⟨#[]⟩) 16 Try.underlying35 siS szS s1S s2S rfl (.slice none 0 0) 0 [] rfl (World.ownsRow_nil _ _ _ _) ka ks.length kc B (ks.map Value.string) rfl hkz (by simp) HKr.out ?c2 ?c3 ?c4 ?c5 ?_)
      case c2 => intro q _; rfl
      case c3 => unfold maxLen; omega
      case c4 => omega
      intro v1 w5 hown5 hg5
      have hB5 : Below wr.heap.size wr w5 := (Below.refl _ _).grown hg5 (Nat.le_refl _) (fun k hk => by simp [Value.ownBlock] at hk)
      obtain ⟨ka', kc', bk, rfl, g1, g2, g3, g4, g5⟩ := OwnStr.of_own hown5
      have X05 := HX0r.out.below hB5 HX0r.out.lt
      have X15 := HX1r.out.below hB5 HX1r.out.lt
      have HB5 := Lib.hid hB5
      have HG := Lib.hid (show _ ∧ _ ∧ _ ∧ _ ∧ _ from ⟨g1, g2, g3, g4, g5⟩)
      have Y0 := (X05.set 4 (.slice a j c)).set 5 (.slice ka' ks.length kc')
      have Y1 := (X15.set_other (a := ⟨w.heap.size, 4, none⟩) (by simp) (.slice a j c)).set_other (a := ⟨w.heap.size, 5, none⟩) (by simp) (.slice ka' ks.length kc')
      obtain ⟨w6, hw6⟩ : ∃ w6, (w5.setCell ⟨w.heap.size, 4, none⟩ (.slice a j c)).setCell ⟨w.heap.size, 5, none⟩ (.slice ka' ks.length kc') = w6 := ⟨_, rfl⟩
      have f4 := X05.free 4
      have f5 := X05.free 5
      have d4 := X05.cell (i := 4) rfl
      have d5 := X05.cell (i := 5) rfl
      have HY0 := Lib.hid Y0
      have HY1 := Lib.hid Y1
      have HW6 := Lib.hid hw6
      have h16 : Block w6 (w.heap.size + 1) zeroC 71 := by rw [← hw6]; exact Y1
      have h06 : Block w6 w.heap.size [.int .i64 k, .bool b, .int .i64 i, .string s, .slice a j c, .slice ka' ks.length kc'] 71 := by rw [← hw6]; exact Y0
      have H16 := Lib.hid h16
      have x0 := h06.cell (i := 0) rfl
      have x1 := h06.cell (i := 1) rfl
      have x2 := h06.cell (i := 2) rfl
      have x3 := h06.cell (i := 3) rfl
      have x4 := h06.cell (i := 4) rfl
      have x5 := h06.cell (i := 5) rfl
      have z0 := h16.cell (i := 0) rfl
      have z1 := h16.cell (i := 1) rfl
      have z2 := h16.cell (i := 2) rfl
      have z3 := h16.cell (i := 3) rfl
      have z4 := h16.cell (i := 4) rfl
      have z5 := h16.cell (i := 5) rfl
      have n0 := h16.free 0
      have n1 := h16.free 1
      have n2 := h16.free 2
      have n3 := h16.free 3
      have n4 := h16.free 4
      have n5 := h16.free 5
      obtain ⟨q0, q1, q2, q3, q4, q5⟩ := six_cells h16 (.int .i64 k) (.bool b) (.int .i64 i) (.string s) (.slice a j c) (.slice ka' ks.length kc')
      rw [← hw6] at x0 x1 x2 x3 x4 x5 z0 z1 z2 z3 z4 z5 n0 n1 n2 n3 n4 n5 q0 q1 q2 q3 q4 q5
      clear hown5 hg5 hB5 g1 g2 g3 g4 g5 X05 X15 Y0 Y1 c4 c5 hw6 h16 h06
      go_wp2_with fail
      refine bodyPost_ret (by simp [results, Try.results87, go_sem, q0, q1, q2, q3, q4, q5]; rfl) rfl ?_
      rw [HW6.out]
      obtain ⟨g1, g2, g3, g4, g5⟩ := HG.out
      obtain ⟨hc9, hz9, hp9, hn9, hr9⟩ := HPP.out
      have hz6 : w6.heap.size = w5.heap.size := by rw [← HW6.out]; simp [World.setCell]
      have hzr5 := HB5.out.size
      have hW0 := HZ0.out
      have hb56 : ∀ q, w.heap.size + 1 < q → w6.heap[q]? = w5.heap[q]? := fun q hq => by
        rw [← HW6.out, Below.heap_setCell _ _ _ _ (by show q ≠ w.heap.size; omega), Below.heap_setCell _ _ _ _ (by show q ≠ w.heap.size; omega)]
      obtain ⟨w7, hw7⟩ : ∃ w7, set6 w6 (w.heap.size + 1) 0 (.int .i64 k) (.bool b) (.int .i64 i) (.string s) (.slice a j c) (.slice ka' ks.length kc') = w7 := ⟨_, rfl⟩
      show CopyP _ w _ (set6 w6 (w.heap.size + 1) 0 (.int .i64 k) (.bool b) (.int .i64 i) (.string s) (.slice a j c) (.slice ka' ks.length kc'))
      have hz7 : w7.heap.size = w5.heap.size := by rw [← hw7, set6_size, hz6]
      have hb57 : ∀ q, w.heap.size + 1 < q → w7.heap[q]? = w5.heap[q]? := fun q hq => by rw [← hw7, set6_other _ _ _ _ _ _ _ _ _ _ (by omega), hb56 q hq]
      have hbr7 : ∀ q, w.heap.size + 1 < q → q < wr.heap.size → w7.heap[q]? = wr.heap[q]? := fun q hq hq2 => by rw [hb57 q hq, HB5.out.block q hq2]
      have hB7 : Below w.heap.size w w7 := by
        rw [← hw7, ← HW6.out]
        exact set6_below (((HBr.out.trans (HB5.out.mono HBr.out.size)).setCell (Nat.le_refl _) _).setCell (Nat.le_refl _) _) _ _ (by omega) _ _ _ _ _ _
      rw [hw7]
      have hjl := HJL.out
      refine ⟨[.int .i64 k, .bool b, .int .i64 i, .string s, .slice a j c, .slice ka' ks.length kc'], bk ++ b29, rfl, hB7, ?_, ?_, ?_⟩
      · unfold IsO
        refine ⟨a, c, ka', kc', bk, b29, by rw [hjl], ⟨hk64, hi64, ⟨by omega, by have := hc9.2; unfold maxLen at this; omega⟩, ⟨g5.1, by have := g5.2; unfold maxLen at this; omega⟩, hz9, g4⟩, rfl, g1.same fun q hq => hb57 q (by have := (g2 q hq).1; omega), ?_⟩
        rcases hp9 with h | ⟨lb, cur, ty, b3, e1, e2, e3, e4⟩
        · exact .inl h
        · have hlb := hr9 lb (by rw [e2]; simp)
          refine .inr ⟨lb, cur, ty, b3, e1, e2, e3.of_heap (hbr7 lb (by omega) hlb.2), IsOs.same l (fun _ t _ cs bs h hb => IsO.same t cs bs h hb) _ _ _ e4 fun q hq => ?_⟩
          have := hr9 q (by rw [e2]; simp [hq])
          exact hbr7 q (by omega) this.2
      · refine List.nodup_append.2 ⟨g3, hn9, fun x hx y hy => ?_⟩
        have h1 := (g2 x hx).1
        have h2 := (hr9 y hy).2
        omega
      · intro q hq
        rw [hz7]
        rcases List.mem_append.1 hq with hq | hq
        · have := g2 q hq; omega
        · have := hr9 q hq; omega
end Go.Proofs.Ytoakloicjlfaaaa

/- Layer 3: the contract of the reference's Spoil: it turns nothing but the value's own memory. Conditions: the value's memory is its own. -/
namespace Go.Proofs.Ytoakloicjlfaaaa
open Go.RowKit
set_option linter.unusedSimpArgs false
set_option linter.unusedVariables false

def SpoilSaid (t : Vt) : Prop := ∀ (cs : List Value) (bs : List Nat) (w : World), IsO w cs t bs → bs.Nodup → (∀ b ∈ bs, b < w.heap.size) →
    Calls Try.prog 46 #[.agg cs.toArray] w fun e w' => e = .returned (.tuple #[]) ∧ Kept bs w w'
theorem IsOs.bs_mem {w : World} {cur : List Value} {n : Nat} {t : Vt} {ts : List Vt} {bs : List Nat} (h : IsOs w cur n (t :: ts) bs) : ∃ cs b1 b2, bs = b1 ++ b2 ∧ (∀ (j : Nat) v, cs[j]? = some v → cur[n * 6 + j]? = some v) ∧ IsO w cs t b1 ∧ IsOs w cur (n + 1) ts b2 := by
  unfold IsOs at h
  exact h
theorem drop_some {α : Type} {l : List α} {j : Nat} {x : α} (h : l[j]? = some x) : l.drop j = x :: l.drop (j + 1) := by
  obtain ⟨h1, h2⟩ := List.getElem?_eq_some_iff.1 h
  rw [List.drop_eq_getElem_cons h1, h2]
theorem Kept.mono {own own' : List Nat} {w w' : World} (h : Kept own w w') (hs : ∀ x ∈ own, x ∈ own') : Kept own' w w' :=
  ⟨h.os, h.tape, h.output, h.size, fun k hk hn => h.block k hk (fun hm => hn (hs k hm))⟩
set_option maxRecDepth 100000 in
set_option maxHeartbeats 4000000 in
theorem spoil_any (t : Vt) : SpoilSaid t := by
  refine t.down (p := SpoilSaid) fun k b i s l ks ih cs bs w hO hnd hlt => ?_
  unfold IsO at hO
  obtain ⟨la, lc, ka, kc, b1, b2, rfl, ⟨-, -, ⟨hlc, hlm⟩, ⟨hkc, hkm⟩, -, -⟩, rfl, hks, hls⟩ := hO
  obtain ⟨hn1, hn2, hn12⟩ := List.nodup_append.1 hnd
  have IH := Lib.hid ih
  clear ih
  show Calls Try.prog 46 #[.agg #[.int .i64 k, .bool b, .int .i64 i, .string s, .slice la l.length lc, .slice ka ks.length kc]] w _
  obtain ⟨W0, hW0⟩ : ∃ W0, w.alloc (.cells #[.int .i64 k, .bool b, .int .i64 i, .string s, .slice la l.length lc, .slice ka ks.length kc] 71) = W0 := ⟨_, rfl⟩
  have hX0 : Block W0 w.heap.size [.int .i64 k, .bool b, .int .i64 i, .string s, .slice la l.length lc, .slice ka ks.length kc] 71 := by rw [← hW0]; exact Block.new w _ _
  have hBW : Below w.heap.size w W0 := by rw [← hW0]; exact (Below.refl _ _).alloc (Nat.le_refl _) _
  have hz0 : W0.heap.size = w.heap.size + 1 := by rw [← hW0]; simp
  have HX0 := Lib.hid hX0
  have HBW := Lib.hid hBW
  have HZ0 := Lib.hid hz0
  have HW0 := Lib.hid hW0
  -- the keys' part and the row's part, in the world behind the box
  have HKS : Hid (OwnStr W0 ka ks b1) := Lib.hid (hks.same fun q hq => hBW.block q (hlt q (by simp [hq])))
  have HLT := Lib.hid hlt
  have HN := Lib.hid (show _ ∧ _ ∧ _ from ⟨hn1, hn2, hn12⟩)
  -- the row: its block, its cells, the elements' blocks
  obtain ⟨lb, cur, ty, b3, hla, hb2, hblk, hos⟩ : ∃ lb cur ty b3, (l ≠ [] → la = some ⟨lb, 0, none⟩) ∧ ((l = [] ∧ b2 = [] ∧ b3 = []) ∨ b2 = lb :: b3) ∧ (l ≠ [] → Block w lb cur ty) ∧ IsOs w cur 0 l b3 := by
    rcases hls with ⟨rfl, rfl⟩ | ⟨lb, cur, ty, b3, h1, h2, h3, h4⟩
    · exact ⟨0, [], 0, [], fun h => absurd rfl h, .inl ⟨rfl, rfl, rfl⟩, fun h => absurd rfl h, by unfold IsOs; rfl⟩
    · exact ⟨lb, cur, ty, b3, fun _ => h1, .inr h2, fun _ => h3, h4⟩
  have hb3 : ∀ q ∈ b3, q ∈ b2 := fun q hq => by
    rcases hb2 with ⟨_, _, h⟩ | h
    · rw [h] at hq; simp at hq
    · rw [h]; simp [hq]
  have HOS : Hid (IsOs W0 cur 0 l b3) := Lib.hid (IsOs.same l (fun _ t _ cs bs h hb => IsO.same t cs bs h hb) _ _ _ hos fun q hq => hBW.block q (hlt q (by simp [hb3 q hq])))
  have HLA := Lib.hid hla
  have HB2 := Lib.hid hb2
  have HB3 := Lib.hid hb3
  have HBK : Hid (l ≠ [] → Block W0 lb cur ty) := Lib.hid (fun h => (hblk h).below hBW (hblk h).lt)
  have HN3 : Hid (b3.Nodup ∧ (l ≠ [] → lb ∉ b3)) := Lib.hid (by
    rcases hb2 with ⟨h1, _, h⟩ | h
    · subst h; exact ⟨List.nodup_nil, fun h => absurd h1 h⟩
    · rw [h] at hn2; exact ⟨(List.nodup_cons.1 hn2).2, fun _ => (List.nodup_cons.1 hn2).1⟩)
  clear hX0 hBW hz0 hW0 hks hls hla hb2 hblk hos hb3 hlt hnd hn1 hn2 hn12
  go_enter Try.func46, Try.ntmps46
  go_wp2_with fail
  rw [HW0.out]
  go_loopw [2] (fun iv wr => ∃ (j : Nat) (cu : List Value) (b4 : List Nat), iv = .int .i64 j ∧ j ≤ l.length ∧ Hid (Kept b2 W0 wr) ∧ Hid (l ≠ [] → Block wr lb cu ty) ∧ Hid (∀ q, j * 6 ≤ q → cu[q]? = cur[q]?) ∧ Hid (IsOs wr cur j (l.drop j) b4) ∧ Hid (b4.Nodup ∧ ∀ q ∈ b4, q ∈ b3)) (fun iv _ => l.length - (intOf iv).toNat)
  case atStart => exact ⟨0, cur, b3, rfl, Nat.zero_le _, Lib.hid (Kept.refl _ _), HBK, Lib.hid (fun _ _ => rfl), Lib.hid HOS.out, Lib.hid ⟨HN3.out.1, fun _ h => h⟩⟩
  case round =>
    obtain ⟨j, cu, b4, rfl, hj, HK, HBL, HCU, HO, HB4⟩ := hrel
    have hXn : w.heap.size ∉ b2 := fun h => by have := HLT.out _ (show w.heap.size ∈ b1 ++ b2 by simp [h]); omega
    have HX : Hid (Block wr w.heap.size [.int .i64 k, .bool b, .int .i64 i, .string s, .slice la l.length lc, .slice ka ks.length kc] 71) := Lib.hid (HX0.out.of_heap (HK.out.block _ HX0.out.lt hXn))
    have c4 := HX.out.cell (i := 4) rfl
    by_cases hlt : j < l.length
    · have hlt' : (j : Int) < l.length := by omega
      have hj0 : (0 : Int) ≤ (j : Int) := by omega
      have hne : l ≠ [] := by rintro rfl; simp at hlt
      obtain rfl := HLA.out hne
      obtain ⟨t, ht⟩ := get_some hlt
      have ho := HO.out
      rw [drop_some ht] at ho
      obtain ⟨cs2, b5, b6, hb56, hcs, ht2, hrest⟩ := ho.bs_mem
      have hnd4 := HB4.out.1
      rw [hb56] at hnd4
      obtain ⟨hn5, hn6, hn56⟩ := List.nodup_append.1 hnd4
      have hm5 : ∀ q ∈ b5, q ∈ b3 := fun q hq => HB4.out.2 q (by rw [hb56]; simp [hq])
      have hm6 : ∀ q ∈ b6, q ∈ b3 := fun q hq => HB4.out.2 q (by rw [hb56]; simp [hq])
      have hwz := HK.out.size
      have hsz := HZ0.out
      have hl5 : ∀ q ∈ b3, q < w.heap.size := fun q hq => HLT.out q (by simp [HB3.out q hq])
      have HSP := Lib.hid (IH.out j t ht cs2 b5 wr ht2 hn5 (fun q hq => by have := hl5 q (hm5 q hq); omega))
      obtain ⟨k2, bb2, i2, s2, l2, ks2⟩ := t
      have ht3 := ht2
      unfold IsO at ht3
      obtain ⟨la2, lc2, ka2, kc2, x1, x2, rfl, -, -, -, -⟩ := ht3
      have hbl := HBL.out hne
      have hlbw : lb < w.heap.size := HLT.out lb (by
        rcases HB2.out with ⟨h, _⟩ | h
        · exact absurd h hne
        · rw [h]; simp)
      have hcell : ∀ q v, [Value.int .i64 k2, .bool bb2, .int .i64 i2, .string s2, .slice la2 l2.length lc2, .slice ka2 ks2.length kc2][q]? = some v → cu[j * 6 + q]? = some v := fun q v hv => by rw [HCU.out _ (by omega)]; exact hcs q v hv
      have g0 := hbl.cell (hcell 0 _ rfl)
      have g1 := hbl.cell (hcell 1 _ rfl)
      have g2 := hbl.cell (hcell 2 _ rfl)
      have g3 := hbl.cell (hcell 3 _ rfl)
      have g4 := hbl.cell (hcell 4 _ rfl)
      have g5 := hbl.cell (hcell 5 _ rfl)
      rw [Nat.add_zero] at g0
      have HCE := Lib.hid hcell
      have HRE := Lib.hid hrest
      have HNN := Lib.hid (show _ ∧ _ ∧ _ ∧ _ ∧ _ ∧ _ from ⟨hn5, hn6, hn56, hm5, hm6, hl5⟩)
      have HBLr := Lib.hid hbl
      have HNE := Lib.hid hne
      clear ho hcs ht2 hrest hnd4 hn5 hn6 hn56 hm5 hm6 hl5 hcell hbl hb56 ht
      go_wp2_with fail
      refine HSP.out.mono ?_
      rintro e w2 ⟨rfl, hk2⟩
      have hlb5 : lb ∉ b5 := fun h => (HN3.out.2 HNE.out) (HNN.out.2.2.2.1 lb h)
      have hbl2 : Block w2 lb cu ty := HBLr.out.of_heap (hk2.block lb HBLr.out.lt hlb5)
      have hX2 := HX.out.of_heap (hk2.block w.heap.size HX.out.lt (fun h => by have := HNN.out.2.2.2.2.2 _ (HNN.out.2.2.2.1 _ h); omega))
      have d4 := hX2.cell (i := 4) rfl
      have d0 := hbl2.cell (HCE.out 0 _ rfl)
      have d1 := hbl2.cell (HCE.out 1 _ rfl)
      have d2 := hbl2.cell (HCE.out 2 _ rfl)
      have d3 := hbl2.cell (HCE.out 3 _ rfl)
      have dd4 := hbl2.cell (HCE.out 4 _ rfl)
      have d5 := hbl2.cell (HCE.out 5 _ rfl)
      have e0 := hbl2.free (j * 6)
      have e1 := hbl2.free (j * 6 + 1)
      have e2 := hbl2.free (j * 6 + 2)
      have e3 := hbl2.free (j * 6 + 3)
      have e4 := hbl2.free (j * 6 + 4)
      have e5 := hbl2.free (j * 6 + 5)
      rw [Nat.add_zero] at d0
      have HBL2 := Lib.hid hbl2
      have HK2 := Lib.hid hk2
      clear hbl2 hX2 hk2 hlb5 g0 g1 g2 g3 g4 g5 c4
      go_wp2_with fail
      go_roundw
      case rel =>
        have hlb2 : lb ∈ b2 := by
          rcases HB2.out with ⟨h, _⟩ | h
          · exact absurd h HNE.out
          · rw [h]; simp
        have hlb3 : lb ∉ b3 := HN3.out.2 HNE.out
        refine ⟨j + 1, put6 cu (j * 6) (.int .i64 2) (.bool false) (.int .i64 99) (.string ⟨#[]⟩) (.slice none 0 0) (.slice none 0 0), b6, by go_num, by omega, ?_, Lib.hid (fun _ => HBL2.out.set6 (j * 6) _ _ _ _ _ _), Lib.hid (fun q hq => by rw [put6_out _ _ _ _ _ _ _ _ q (by omega)]; exact HCU.out q (by omega)), ?_, Lib.hid ⟨HNN.out.2.1, HNN.out.2.2.2.2.1⟩⟩
        · exact Lib.hid ((((((((HK.out.trans (HK2.out.mono (fun q hq => HB3.out q (HNN.out.2.2.2.1 q hq))) (fun x hx => .inl hx)).setCell (.inl hlb2) _).setCell (.inl hlb2) _).setCell (.inl hlb2) _).setCell (.inl hlb2) _).setCell (.inl hlb2) _).setCell (.inl hlb2) _))
        · refine Lib.hid (IsOs.same _ (fun _ t _ cs bs h hb => IsO.same t cs bs h hb) _ _ _ HRE.out fun q hq => ?_)
          have hq3 := HNN.out.2.2.2.2.1 q hq
          have hqw := HNN.out.2.2.2.2.2 q hq3
          exact (set6_other w2 lb (j * 6) _ _ _ _ _ _ q (fun e => hlb3 (by rw [← e]; exact hq3))).trans (HK2.out.block q (by omega) (fun h => HNN.out.2.2.1 q h q hq rfl))
      case measure => simp [intOf]; omega
    · have hlt' : ¬ (j : Int) < l.length := by omega
      have hks := HKS.out.same (w' := wr) (fun q hq => HK.out.block q (by have := HLT.out q (by simp [hq]); have := HZ0.out; omega) (fun h => HN.out.2.2 q hq q h rfl))
      obtain ⟨kb, kcur, kty, hka, hkm, hkb, hkl⟩ : ∃ kb kcur kty, (ks ≠ [] → ka = some ⟨kb, 0, none⟩) ∧ (ks ≠ [] → kb ∈ b1) ∧ (ks ≠ [] → Block wr kb kcur kty) ∧ ks.length ≤ kcur.length := by
        rcases hks with ⟨rfl, _⟩ | ⟨kb, cur, ty, h1, h2, h3, h4⟩
        · exact ⟨0, [], 0, fun h => absurd rfl h, fun h => absurd rfl h, fun h => absurd rfl h, by simp⟩
        · refine ⟨kb, cur, ty, fun _ => h1, fun _ => by rw [h2]; simp, fun _ => h3, ?_⟩
          by_cases h0 : ks.length = 0
          · omega
          · obtain ⟨x, hx⟩ : ∃ x, ks[ks.length - 1]? = some x := get_some (by omega)
            have := (List.getElem?_eq_some_iff.1 (h4 _ x hx)).1
            omega
      have HKA := Lib.hid hka
      have HKM := Lib.hid hkm
      have HKB := Lib.hid hkb
      have HKL := Lib.hid hkl
      have HK1 : Hid (Kept (b1 ++ b2) W0 wr) := Lib.hid (HK.out.mono (fun q hq => by simp [hq]))
      have hX5 := HX.out.cell (i := 5) rfl
      clear hks hka hkm hkb hkl
      go_wp2_with fail
      go_loopw [3] (fun iv w3 => ∃ (q : Nat) (kcu : List Value), iv = .int .i64 q ∧ q ≤ ks.length ∧ Hid (Kept (b1 ++ b2) W0 w3) ∧ Hid (ks ≠ [] → Block w3 kb kcu kty) ∧ Hid (ks.length ≤ kcu.length)) (fun iv _ => ks.length - (intOf iv).toNat)
      case atStart => exact ⟨0, kcur, rfl, Nat.zero_le _, HK1, HKB, HKL⟩
      case round =>
        rename_i w3
        obtain ⟨q, kcu, rfl, hq, HK3, HKB3, HKL3⟩ := hrel
        have hXn3 : w.heap.size ∉ b1 ++ b2 := fun h => by have := HLT.out _ h; omega
        have HX3 := Lib.hid (HX0.out.of_heap (HK3.out.block _ HX0.out.lt hXn3))
        have r5 := HX3.out.cell (i := 5) rfl
        by_cases hlt3 : q < ks.length
        · have hlt3' : (q : Int) < ks.length := by omega
          have hq0 : (0 : Int) ≤ (q : Int) := by omega
          have hne : ks ≠ [] := by rintro rfl; simp at hlt3
          obtain rfl := HKA.out hne
          have hkbm := HKM.out hne
          obtain ⟨y, hy⟩ : ∃ y, kcu[q]? = some y := get_some (by have := HKL3.out; omega)
          have e0 := (HKB3.out hne).free q
          have e1 := (HKB3.out hne).cell hy
          have HNE := Lib.hid hne
          have HMM := Lib.hid hkbm
          clear hne hy hkbm
          go_wp2_with fail
          go_roundw
          case rel =>
            refine ⟨q + 1, kcu.set q (.string ⟨#[115, 112, 111, 105, 108, 116]⟩), by go_num, by omega, Lib.hid (HK3.out.setCell (.inl (by simp [HMM.out])) _), Lib.hid (fun _ => (HKB3.out HNE.out).set q _), Lib.hid (by rw [List.length_set]; exact HKL3.out)⟩
          case measure => simp [intOf]; omega
        · have hlt3' : ¬ (q : Int) < ks.length := by omega
          go_wp2_with fail
          go_end0
          exact ⟨rfl, by
            have h1 := HK3.out
            exact ⟨h1.os.trans HBW.out.os, h1.tape.trans HBW.out.tape, h1.output.trans HBW.out.output, Nat.le_trans HBW.out.size h1.size, fun x hx hn => by rw [h1.block x (by have := HBW.out.size; omega) hn, HBW.out.block x hx]⟩⟩
end Go.Proofs.Ytoakloicjlfaaaa

/- The contracts of SameNames, SameList and Same (wattleref03) over trees. Written by gensame.py. Conditions: none. -/
namespace Go.Proofs.Ytoakloicjlfaaaa
open Go.RowKit
set_option linter.unusedSimpArgs false
set_option linter.unusedVariables false

mutual
def sameV : Vt → Vt → Bool
  | .mk k b i s l ks, .mk k' b' i' s' l' ks' => decide (k = k') && decide (b = b') && decide (i = i') && decide (s = s') && decide (ks = ks') && sameVs l l'
def sameVs : List Vt → List Vt → Bool
  | [], [] => true
  | t :: ts, u :: us => sameV t u && sameVs ts us
  | [], _ :: _ => false
  | _ :: _, [] => false
end
theorem sameVs_iff : ∀ (l m : List Vt), (∀ (j : Nat) t, l[j]? = some t → ∀ u, sameV t u = true ↔ t = u) → (sameVs l m = true ↔ l = m) := by
  intro l
  induction l with
  | nil => intro m _; cases m <;> simp [sameVs]
  | cons t ts ih =>
    intro m h
    cases m with
    | nil => simp [sameVs]
    | cons u us =>
      have h0 := h 0 t rfl u
      have h1 := ih us (fun j t ht => h (j + 1) t (by simpa using ht))
      simp only [sameVs, Bool.and_eq_true, h0, h1, List.cons.injEq]
theorem sameV_iff (a : Vt) : ∀ b, sameV a b = true ↔ a = b := by
  refine a.down (p := fun a => ∀ b, sameV a b = true ↔ a = b) fun k b i s l ks ih c => ?_
  obtain ⟨k', b', i', s', l', ks'⟩ := c
  simp only [sameV, Bool.and_eq_true, decide_eq_true_eq, sameVs_iff l l' ih]
  constructor
  · rintro ⟨⟨⟨⟨⟨rfl, rfl⟩, rfl⟩, rfl⟩, rfl⟩, rfl⟩; rfl
  · intro h
    injection h with h1 h2 h3 h4 h5 h6
    exact ⟨⟨⟨⟨⟨h1, h2⟩, h3⟩, h4⟩, h6⟩, h5⟩
theorem sameVs_len {l m : List Vt} (h : l.length ≠ m.length) : sameVs l m = false := by
  induction l generalizing m with
  | nil => cases m with
    | nil => exact absurd rfl h
    | cons u us => rfl
  | cons t ts ih => cases m with
    | nil => rfl
    | cons u us => simp only [sameVs, ih (m := us) (fun e => h (by simp [e])), Bool.and_false]
theorem sameVs_at {l m : List Vt} : ∀ {j : Nat} {t u : Vt}, l[j]? = some t → m[j]? = some u → sameVs (l.drop j) (m.drop j) = (sameV t u && sameVs (l.drop (j + 1)) (m.drop (j + 1))) := by
  intro j t u h k
  obtain ⟨h1, h2⟩ := List.getElem?_eq_some_iff.1 h
  obtain ⟨k1, k2⟩ := List.getElem?_eq_some_iff.1 k
  rw [List.drop_eq_getElem_cons h1, List.drop_eq_getElem_cons k1, h2, k2]
  simp only [sameVs]
theorem ba_beq (x y : ByteArray) : (x.toList == y.toList) = decide (x = y) := by
  rw [ba_list, ba_list, Bool.eq_iff_iff, beq_iff_eq, decide_eq_true_eq]
  constructor
  · intro h; apply ByteArray.ext; exact Array.ext' h
  · rintro rfl; rfl
theorem StrRow.get {B : Nat} {w : World} {a : Option Addr} {ks : List ByteArray} (h : StrRow B w a ks) {j : Nat} {x : ByteArray} (hx : ks[j]? = some x) : ∃ b off, a = some ⟨b, off, none⟩ ∧ b < B ∧ w.cell? ⟨b, off + j, none⟩ = some (.string x) := by
  rcases h with h0 | ⟨b, off, h1, h2, h3⟩
  · rw [List.map_eq_nil_iff] at h0; rw [h0] at hx; simp at hx
  · exact ⟨b, off, h1, h2, h3 j _ (by rw [List.getElem?_map, hx]; rfl)⟩

set_option maxRecDepth 1000000 in
set_option maxHeartbeats 2000000 in
theorem sameNames_any (ks ms : List ByteArray) (ka ma : Option Addr) (kc mc : Nat) (B : Nat) (w : World) (hk : StrRow B w ka ks) (hm : StrRow B w ma ms) (hB : B ≤ w.heap.size) (hkl : ks.length ≤ 9223372036854775807) (hml : ms.length ≤ 9223372036854775807) :
    Calls Try.prog 67 #[.slice ka ks.length kc, .slice ma ms.length mc] w fun e w' => e = .returned (.bool (decide (ks = ms))) ∧ Below w.heap.size w w' := by
  have HK := Lib.hid hk
  have HM := Lib.hid hm
  clear hk hm
  obtain ⟨R, hR⟩ : ∃ R, decide (ks = ms) = R := ⟨_, rfl⟩
  have HR := Lib.hid hR
  rw [hR]
  clear hR
  by_cases hn : ks.length = ms.length
  rotate_left
  · have hnb : ((ks.length : Int) != (ms.length : Int)) = true := by simp; omega
    have HN : Hid (R = false) := Lib.hid (by rw [← HR.out]; exact decide_eq_false (fun e => hn (by rw [e])))
    go_enter Try.func67, Try.ntmps67
    go_wp2_with fail
    go_ret
    exact ⟨by rw [HN.out]; rfl, Below.refl _ _⟩
  have hnb : ((ks.length : Int) != (ms.length : Int)) = false := by simp; omega
  have HNL := Lib.hid hn
  clear hn
  go_enter Try.func67, Try.ntmps67
  go_wp2_with fail
  go_loopw [5] (fun iv wr => ∃ j : Nat, iv = .int .i64 j ∧ j ≤ ks.length ∧ Below w.heap.size w wr ∧ Hid (ks.take j = ms.take j)) (fun iv _ => ks.length - (intOf iv).toNat)
  case atStart => exact ⟨0, rfl, Nat.zero_le _, Below.refl _ _, Lib.hid rfl⟩
  case round =>
    obtain ⟨j, rfl, hj, hbr, ht⟩ := hrel
    have HBR := Lib.hid hbr
    clear hbr
    by_cases hlt : j < ks.length
    · have hlt' : (j : Int) < ks.length := by omega
      have hlm : j < ms.length := by have := HNL.out; omega
      have hlm' : (j : Int) < ms.length := by omega
      have p0 : (0 : Int) ≤ (j : Int) := by omega
      obtain ⟨x, hx⟩ := get_some hlt
      obtain ⟨y, hy⟩ := get_some hlm
      obtain ⟨kb, ko, rfl, _, g1⟩ := StrRow.get (HK.out.below HBR.out hB) hx
      obtain ⟨mb, mo, rfl, _, g2⟩ := StrRow.get (HM.out.below HBR.out hB) hy
      have HX := Lib.hid hx
      have HY := Lib.hid hy
      clear hx hy
      have hbe := ba_beq x y
      by_cases he : x = y
      · have hbt : (x.toList == y.toList) = true := by rw [hbe]; exact decide_eq_true he
        have HU : Hid (ks.take (j + 1) = ms.take (j + 1)) := Lib.hid (by rw [take_succ_some HX.out, take_succ_some HY.out, ht.out, he])
        clear hbe he
        go_wp2_with fail
        go_quiet (fail)
        go_wp2_with fail
        go_roundw
        case rel => exact ⟨j + 1, by go_num, by omega, below_draws HBR.out _, HU⟩
        case measure => simp [intOf]; omega
      · have hbt : (x.toList == y.toList) = false := by rw [hbe]; exact decide_eq_false he
        have HN : Hid (R = false) := Lib.hid (by rw [← HR.out]; exact decide_eq_false (fun e => he (by have h1 := HX.out; rw [e, HY.out] at h1; exact (Option.some.inj h1).symm)))
        clear hbe he
        go_wp2_with fail
        go_quiet (fail)
        go_wp2_with fail
        go_ret
        exact ⟨by rw [HN.out]; rfl, below_draws HBR.out _⟩
    · have hlt' : ¬ (j : Int) < ks.length := by omega
      have HN : Hid (R = true) := Lib.hid (by
        rw [← HR.out]
        have h1 := ht.out
        rw [List.take_of_length_le (by omega), List.take_of_length_le (by have := HNL.out; omega)] at h1
        exact decide_eq_true h1)
      go_wp2_with fail
      go_ret
      exact ⟨by rw [HN.out]; rfl, HBR.out⟩

def SameSaid (a : Vt) : Prop := ∀ (b : Vt) (cs ds : List Value) (B : Nat) (w : World), IsV B w cs a → IsV B w ds b → B ≤ w.heap.size →
    Calls Try.prog 86 #[.agg cs.toArray, .agg ds.toArray] w fun e w' => e = .returned (.bool (sameV a b)) ∧ Below w.heap.size w w'
set_option maxRecDepth 1000000 in
set_option maxHeartbeats 4000000 in
theorem sameList_any (l m : List Vt) (ih : ∀ (j : Nat) t, l[j]? = some t → SameSaid t) (la ma : Option Addr) (lc mc : Nat) (B : Nat) (w : World) (hl : IsVs B w la 0 l) (hm : IsVs B w ma 0 m) (hB : B ≤ w.heap.size) (hll : l.length ≤ 9223372036854775807) (hml : m.length ≤ 9223372036854775807) :
    Calls Try.prog 68 #[.slice la l.length lc, .slice ma m.length mc] w fun e w' => e = .returned (.bool (sameVs l m)) ∧ Below w.heap.size w w' := by
  have HL := Lib.hid hl
  have HM := Lib.hid hm
  have IH := Lib.hid ih
  clear hl hm ih
  obtain ⟨R, hR⟩ : ∃ R, sameVs l m = R := ⟨_, rfl⟩
  have HR := Lib.hid hR
  rw [hR]
  clear hR
  by_cases hn : l.length = m.length
  rotate_left
  · have hnb : ((l.length : Int) != (m.length : Int)) = true := by simp; omega
    have HN : Hid (R = false) := Lib.hid (by rw [← HR.out]; exact sameVs_len hn)
    go_enter Try.func68, Try.ntmps68
    go_wp2_with fail
    go_ret
    exact ⟨by rw [HN.out]; rfl, Below.refl _ _⟩
  have hnb : ((l.length : Int) != (m.length : Int)) = false := by simp; omega
  have HNL := Lib.hid hn
  clear hn
  go_enter Try.func68, Try.ntmps68
  go_wp2_with fail
  go_loopw [5] (fun iv wr => ∃ j : Nat, iv = .int .i64 j ∧ j ≤ l.length ∧ Below w.heap.size w wr ∧ Hid (R = sameVs (l.drop j) (m.drop j))) (fun iv _ => l.length - (intOf iv).toNat)
  case atStart => exact ⟨0, rfl, Nat.zero_le _, Below.refl _ _, Lib.hid HR.out.symm⟩
  case round =>
    obtain ⟨j, rfl, hj, hbr, ht⟩ := hrel
    have HBR := Lib.hid hbr
    clear hbr
    by_cases hlt : j < l.length
    · have hlt' : (j : Int) < l.length := by omega
      have hlm : j < m.length := by have := HNL.out; omega
      have hlm' : (j : Int) < m.length := by omega
      have p0 : (0 : Int) ≤ (j : Int) := by omega
      obtain ⟨t, hx⟩ := get_some hlt
      obtain ⟨u, hy⟩ := get_some hlm
      have hst := sameVs_at hx hy
      obtain ⟨eb, eo, cs, rfl, heb, hce, hVt⟩ := HL.out.get j t hx
      obtain ⟨fb, fo, ds, rfl, hfb, hde, hVu⟩ := HM.out.get j u hy
      have hszr := HBR.out.size
      have hI1 : ∀ v : Ext wr.heap.size wr, IsV B v.w cs t := fun v => IsV.below (HBR.out.trans (v.below.mono hszr)) hB t cs hVt
      have hI2 : ∀ v : Ext wr.heap.size wr, IsV B v.w ds u := fun v => IsV.below (HBR.out.trans (v.below.mono hszr)) hB u ds hVu
      have HCS := Lib.hid (fun v : Ext wr.heap.size wr => ext_call v (Nat.le_refl _) (IH.out j t hx u cs ds B v.w (hI1 v) (hI2 v) (Nat.le_trans (Nat.le_trans hB hszr) v.below.size)))
      have g : ∀ (n : Nat) v, cs[n]? = some v → ∀ x : Ext wr.heap.size wr, x.w.cell? ⟨eb, eo + j * 6 + n, none⟩ = some v := fun n v hv x => by
        have h1 := hce n v hv
        rw [Nat.zero_add] at h1
        rw [Nat.add_assoc, x.below.cell (by show eb < wr.heap.size; omega), HBR.out.cell (by show eb < w.heap.size; omega)]
        exact h1
      have f : ∀ (n : Nat) v, ds[n]? = some v → ∀ x : Ext wr.heap.size wr, x.w.cell? ⟨fb, fo + j * 6 + n, none⟩ = some v := fun n v hv x => by
        have h1 := hde n v hv
        rw [Nat.zero_add] at h1
        rw [Nat.add_assoc, x.below.cell (by show fb < wr.heap.size; omega), HBR.out.cell (by show fb < w.heap.size; omega)]
        exact h1
      clear hI1 hI2 hx hy hce hde
      obtain ⟨eq, heq⟩ : ∃ eq, sameV t u = eq := ⟨_, rfl⟩
      rw [heq] at HCS hst
      clear heq
      have HST := Lib.hid hst
      clear hst
      obtain ⟨k1, b1, i1, s1, l1, ks1⟩ := t
      obtain ⟨k2, b2, i2, s2, l2, ks2⟩ := u
      unfold IsV at hVt hVu
      obtain ⟨la1, lc1, ka1, kc1, rfl, -⟩ := hVt
      obtain ⟨la2, lc2, ka2, kc2, rfl, -⟩ := hVu
      have g0 := g 0 _ rfl
      have g1 := g 1 _ rfl
      have g2 := g 2 _ rfl
      have g3 := g 3 _ rfl
      have g4 := g 4 _ rfl
      have g5 := g 5 _ rfl
      have f0 := f 0 _ rfl
      have f1 := f 1 _ rfl
      have f2 := f 2 _ rfl
      have f3 := f 3 _ rfl
      have f4 := f 4 _ rfl
      have f5 := f 5 _ rfl
      simp only [Nat.add_zero] at g0 f0
      clear g f
      cases eq with
      | true =>
        go_wp2_with fail
        refine wp_region_ext wr.heap.size (by kernel_rfl) (by kernel_rfl) ?_
        repeat (go_big_quiet_step (exact HCS.out _))
        refine wpQuiet_nil ?_
        intro w2 hw'
        obtain ⟨u, hu⟩ := hw'
        have hb2 := u.below
        rw [← hu] at hb2
        clear hu g0 g1 g2 g3 g4 g5 f0 f1 f2 f3 f4 f5
        have HB2 := Lib.hid hb2
        clear hb2
        go_wp2_with fail
        go_roundw
        case rel => exact ⟨j + 1, by go_num, by omega, HBR.out.trans (HB2.out.mono hszr), Lib.hid (by rw [ht.out, HST.out, Bool.true_and])⟩
        case measure => simp [intOf]; omega
      | false =>
        go_wp2_with fail
        refine wp_region_ext wr.heap.size (by kernel_rfl) (by kernel_rfl) ?_
        repeat (go_big_quiet_step (exact HCS.out _))
        refine wpQuiet_nil ?_
        intro w2 hw'
        obtain ⟨u, hu⟩ := hw'
        have hb2 := u.below
        rw [← hu] at hb2
        clear hu g0 g1 g2 g3 g4 g5 f0 f1 f2 f3 f4 f5
        have HB2 := Lib.hid hb2
        clear hb2
        go_wp2_with fail
        go_ret
        exact ⟨by rw [ht.out, HST.out, Bool.false_and]; rfl, HBR.out.trans (HB2.out.mono hszr)⟩
    · have hlt' : ¬ (j : Int) < l.length := by omega
      have HN : Hid (R = true) := Lib.hid (by rw [ht.out, List.drop_of_length_le (by omega), List.drop_of_length_le (by have := HNL.out; omega)]; rfl)
      go_wp2_with fail
      go_ret
      exact ⟨by rw [HN.out]; rfl, HBR.out⟩

set_option maxRecDepth 1000000 in
set_option maxHeartbeats 4000000 in
theorem same_any (a : Vt) : SameSaid a := by
  refine a.down (p := SameSaid) fun k b i s l ks ih c cs ds B w hV hU hB => ?_
  obtain ⟨k', b', i', s', l', ks'⟩ := c
  have IH := Lib.hid ih
  unfold IsV at hV hU
  obtain ⟨la, lc, ka, kc, rfl, hk64, hi64, ⟨hlc, hlm⟩, ⟨hkc, hkm⟩, hla, hka, hK, hL⟩ := hV
  obtain ⟨la', lc', ka', kc', rfl, hk64', hi64', ⟨hlc', hlm'⟩, ⟨hkc', hkm'⟩, hla', hka', hK', hL'⟩ := hU
  have HN := Lib.hid (fun w' (hb : Below w.heap.size w w') => sameNames_any ks ks' ka ka' kc kc' B w' (hK.below hb hB) (hK'.below hb hB) (Nat.le_trans hB hb.size) (by omega) (by omega))
  have HLS := Lib.hid (fun w' (hb : Below w.heap.size w w') => sameList_any l l' IH.out la la' lc lc' B w' (IsVs.mk fun j t ht => by
      obtain ⟨b, off, cs, h1, h2, h3, h4⟩ := hL.get j t ht
      exact ⟨b, off, cs, h1, h2, fun q v hv => by rw [hb.cell (by show b < w.heap.size; omega)]; exact h3 q v hv, IsV.below hb hB t cs h4⟩) (IsVs.mk fun j t ht => by
      obtain ⟨b, off, cs, h1, h2, h3, h4⟩ := hL'.get j t ht
      exact ⟨b, off, cs, h1, h2, fun q v hv => by rw [hb.cell (by show b < w.heap.size; omega)]; exact h3 q v hv, IsV.below hb hB t cs h4⟩) (Nat.le_trans hB hb.size) (by omega) (by omega))
  clear ih hK hL hla hka hK' hL' hla' hka' hk64 hi64 hk64' hi64'
  obtain ⟨nm, hnm⟩ : ∃ nm, decide (ks = ks') = nm := ⟨_, rfl⟩
  obtain ⟨ls, hls⟩ : ∃ ls, sameVs l l' = ls := ⟨_, rfl⟩
  rw [hnm] at HN
  rw [hls] at HLS
  have HR := Lib.hid (show sameV (.mk k b i s l ks) (.mk k' b' i' s' l' ks') = (decide (k = k') && decide (b = b') && decide (i = i') && decide (s = s') && nm && ls) from by rw [← hnm, ← hls]; unfold sameV; rfl)
  clear hnm hls
  show Calls Try.prog 86 #[.agg #[.int .i64 k, .bool b, .int .i64 i, .string s, .slice la l.length lc, .slice ka ks.length kc], .agg #[.int .i64 k', .bool b', .int .i64 i', .string s', .slice la' l'.length lc', .slice ka' ks'.length kc']] w _
  rw [HR.out]
  have HB0 := Lib.hid (((Below.refl w.heap.size w).alloc (Nat.le_refl _) (.cells #[.int .i64 k, .bool b, .int .i64 i, .string s, .slice la l.length lc, .slice ka ks.length kc] 71)).alloc (by simp) (.cells #[.int .i64 k', .bool b', .int .i64 i', .string s', .slice la' l'.length lc', .slice ka' ks'.length kc'] 71))
  by_cases e1 : k = k'
  rotate_left
  · have d1 : (k == k') = false := by simp; exact e1
    have D1 := Lib.hid (decide_eq_false e1)
    clear e1
    rw [D1.out]
    go_enter Try.func86, Try.ntmps86
    go_wp2_with fail
    go_ret
    exact ⟨by simp, HB0.out⟩
  subst e1
  have d1 : (k == k) = true := by simp
  cases b <;> cases b'
  · by_cases e3 : i = i'
    rotate_left
    · have d3 : (i == i') = false := by simp; exact e3
      have D3 := Lib.hid (decide_eq_false e3)
      clear e3
      rw [D3.out]
      go_enter Try.func86, Try.ntmps86
      go_wp2_with fail
      go_ret
      exact ⟨by simp, HB0.out⟩
    subst e3
    have hbe := ba_beq s s'
    by_cases e4 : s = s'
    rotate_left
    · have d4 : (s.toList == s'.toList) = false := by rw [hbe]; exact decide_eq_false e4
      have D4 := Lib.hid (decide_eq_false e4)
      clear e4 hbe
      rw [D4.out]
      go_enter Try.func86, Try.ntmps86
      go_wp2_with fail
      go_ret
      exact ⟨by simp, HB0.out⟩
    subst e4
    clear hbe
    cases nm with
    | false =>
      go_enter Try.func86, Try.ntmps86
      go_wp2_with fail
      refine (HN.out _ HB0.out).mono ?_
      rintro e w1 ⟨rfl, hb1⟩
      go_wp2_with fail
      go_ret
      exact ⟨by simp, below_step HB0.out rfl hb1⟩
    | true =>
      go_enter Try.func86, Try.ntmps86
      go_wp2_with fail
      refine (HN.out _ HB0.out).mono ?_
      rintro e w1 ⟨rfl, hb1⟩
      have HB1 := Lib.hid (below_step HB0.out rfl hb1)
      have hBX := ((Block.new w [.int .i64 k, .bool false, .int .i64 i, .string s, .slice la l.length lc, .slice ka ks.length kc] 71).alloc (.cells #[.int .i64 k, .bool false, .int .i64 i, .string s, .slice la' l'.length lc', .slice ka' ks'.length kc'] 71)).below hb1 (by simp; omega)
      have hBY := (Block.new (w.alloc (.cells #[.int .i64 k, .bool false, .int .i64 i, .string s, .slice la l.length lc, .slice ka ks.length kc] 71)) [.int .i64 k, .bool false, .int .i64 i, .string s, .slice la' l'.length lc', .slice ka' ks'.length kc'] 71).below hb1 (by simp)
      have x4 := hBX.cell (i := 4) rfl
      have y4 : w1.cell? ⟨w.heap.size + 1, 4, none⟩ = some (.slice la' l'.length lc') := by have h := hBY.cell (i := 4) rfl; simpa using h
      clear hb1 hBX hBY
      go_wp2_with fail
      refine (HLS.out _ HB1.out).mono ?_
      rintro e w2 ⟨rfl, hb2⟩
      go_wp2_with fail
      go_ret
      exact ⟨by simp, below_step HB1.out rfl hb2⟩
  · go_enter Try.func86, Try.ntmps86
    go_wp2_with fail
    go_ret
    exact ⟨by simp, HB0.out⟩
  · go_enter Try.func86, Try.ntmps86
    go_wp2_with fail
    go_ret
    exact ⟨by simp, HB0.out⟩
  · by_cases e3 : i = i'
    rotate_left
    · have d3 : (i == i') = false := by simp; exact e3
      have D3 := Lib.hid (decide_eq_false e3)
      clear e3
      rw [D3.out]
      go_enter Try.func86, Try.ntmps86
      go_wp2_with fail
      go_ret
      exact ⟨by simp, HB0.out⟩
    subst e3
    have hbe := ba_beq s s'
    by_cases e4 : s = s'
    rotate_left
    · have d4 : (s.toList == s'.toList) = false := by rw [hbe]; exact decide_eq_false e4
      have D4 := Lib.hid (decide_eq_false e4)
      clear e4 hbe
      rw [D4.out]
      go_enter Try.func86, Try.ntmps86
      go_wp2_with fail
      go_ret
      exact ⟨by simp, HB0.out⟩
    subst e4
    clear hbe
    cases nm with
    | false =>
      go_enter Try.func86, Try.ntmps86
      go_wp2_with fail
      refine (HN.out _ HB0.out).mono ?_
      rintro e w1 ⟨rfl, hb1⟩
      go_wp2_with fail
      go_ret
      exact ⟨by simp, below_step HB0.out rfl hb1⟩
    | true =>
      go_enter Try.func86, Try.ntmps86
      go_wp2_with fail
      refine (HN.out _ HB0.out).mono ?_
      rintro e w1 ⟨rfl, hb1⟩
      have HB1 := Lib.hid (below_step HB0.out rfl hb1)
      have hBX := ((Block.new w [.int .i64 k, .bool true, .int .i64 i, .string s, .slice la l.length lc, .slice ka ks.length kc] 71).alloc (.cells #[.int .i64 k, .bool true, .int .i64 i, .string s, .slice la' l'.length lc', .slice ka' ks'.length kc'] 71)).below hb1 (by simp; omega)
      have hBY := (Block.new (w.alloc (.cells #[.int .i64 k, .bool true, .int .i64 i, .string s, .slice la l.length lc, .slice ka ks.length kc] 71)) [.int .i64 k, .bool true, .int .i64 i, .string s, .slice la' l'.length lc', .slice ka' ks'.length kc'] 71).below hb1 (by simp)
      have x4 := hBX.cell (i := 4) rfl
      have y4 : w1.cell? ⟨w.heap.size + 1, 4, none⟩ = some (.slice la' l'.length lc') := by have h := hBY.cell (i := 4) rfl; simpa using h
      clear hb1 hBX hBY
      go_wp2_with fail
      refine (HLS.out _ HB1.out).mono ?_
      rintro e w2 ⟨rfl, hb2⟩
      go_wp2_with fail
      go_ret
      exact ⟨by simp, below_step HB1.out rfl hb2⟩
end Go.Proofs.Ytoakloicjlfaaaa

/- Graphs (api.Graph) as trees: what lies in memory, and how it is read. Conditions: none. -/
namespace Go.Proofs.Ytoakloicjlfaaaa
open Go.RowKit Go.Deep Go.ChangeShapes Go.WideShapes
set_option linter.unusedVariables false
set_option maxRecDepth 100000

structure Nt where
  id : Int
  labels : List ByteArray
  keys : List ByteArray
  vals : List Vt
structure Et where
  id : Int
  src : Int
  dst : Int
  ty : ByteArray
  keys : List ByteArray
  vals : List Vt
structure Gt where
  nodes : List Nt
  edges : List Et
/-- A slice's numbers. -/
def SlOk (a : Option Addr) (n c : Nat) : Prop := (n ≤ c ∧ c ≤ 9223372036854775807) ∧ (a = none → c = 0)
/-- Properties. -/
def IsPr (B : Nat) (w : World) (ka va : Option Addr) (kc vc : Nat) (keys : List ByteArray) (vals : List Vt) : Prop :=
  SlOk ka keys.length kc ∧ SlOk va vals.length vc ∧ StrRow B w ka keys ∧ IsVs B w va 0 vals
def IsN (B : Nat) (w : World) (cs : List Value) (n : Nt) : Prop :=
  ∃ la lc ka kc va vc, cs = [.int .i64 n.id, .slice la n.labels.length lc, .slice ka n.keys.length kc, .slice va n.vals.length vc] ∧ in64 n.id ∧ SlOk la n.labels.length lc ∧ StrRow B w la n.labels ∧ IsPr B w ka va kc vc n.keys n.vals
def IsE (B : Nat) (w : World) (cs : List Value) (e : Et) : Prop :=
  ∃ ka kc va vc, cs = [.int .i64 e.id, .int .i64 e.src, .int .i64 e.dst, .string e.ty, .slice ka e.keys.length kc, .slice va e.vals.length vc] ∧ (in64 e.id ∧ in64 e.src ∧ in64 e.dst) ∧ IsPr B w ka va kc vc e.keys e.vals
/-- A row of structs below block B. -/
def RowR {α : Type} (R : List Value → α → Prop) (size B : Nat) (w : World) (a : Option Addr) (l : List α) : Prop :=
  ∀ (i : Nat) (o : α), l[i]? = some o → ∃ b off cs, a = some ⟨b, off, none⟩ ∧ b < B ∧ cs.length = size ∧ (∀ j v, cs[j]? = some v → w.cell? ⟨b, off + (i * size + j), none⟩ = some v) ∧ R cs o
def IsG (B : Nat) (w : World) (cs : List Value) (g : Gt) : Prop :=
  ∃ na nc ea ec, cs = [.slice na g.nodes.length nc, .slice ea g.edges.length ec] ∧ SlOk na g.nodes.length nc ∧ SlOk ea g.edges.length ec ∧ RowR (IsN B w) 4 B w na g.nodes ∧ RowR (IsE B w) 6 B w ea g.edges
theorem RowR.below {α : Type} {R R' : List Value → α → Prop} {size B B' : Nat} {w w' : World} {a : Option Addr} {l : List α} (h : RowR R size B w a l) (hb : Below B' w w') (hB : B ≤ B') (hR : ∀ cs x, R cs x → R' cs x) : RowR R' size B w' a l := by
  intro i o ho
  obtain ⟨b, off, cs, h1, h2, h3, h4, h5⟩ := h i o ho
  exact ⟨b, off, cs, h1, h2, h3, fun j v hv => by rw [hb.cell (by show b < B'; omega)]; exact h4 j v hv, hR _ _ h5⟩
theorem IsVs.mono {B B' : Nat} {w : World} {a : Option Addr} {l : List Vt} (h : IsVs B w a 0 l) (hB : B ≤ B') : IsVs B' w a 0 l :=
  IsVs.mk fun j t ht => by
    obtain ⟨b, off, cs', g1, g2, g3, g4⟩ := h.get j t ht
    exact ⟨b, off, cs', g1, by omega, g3, g4.mono hB _ _⟩
theorem IsPr.below {B B' : Nat} {w w' : World} {ka va : Option Addr} {kc vc : Nat} {keys : List ByteArray} {vals : List Vt} (h : IsPr B w ka va kc vc keys vals) (hb : Below B' w w') (hB : B ≤ B') : IsPr B w' ka va kc vc keys vals :=
  ⟨h.1, h.2.1, h.2.2.1.below hb hB, h.2.2.2.below hb hB⟩
theorem IsPr.mono {B B' : Nat} {w : World} {ka va : Option Addr} {kc vc : Nat} {keys : List ByteArray} {vals : List Vt} (h : IsPr B w ka va kc vc keys vals) (hB : B ≤ B') : IsPr B' w ka va kc vc keys vals :=
  ⟨h.1, h.2.1, h.2.2.1.mono hB, h.2.2.2.mono hB⟩
theorem IsN.below {B B' : Nat} {w w' : World} {cs : List Value} {n : Nt} (h : IsN B w cs n) (hb : Below B' w w') (hB : B ≤ B') : IsN B w' cs n := by
  obtain ⟨la, lc, ka, kc, va, vc, h1, h2, h3, h4, h5⟩ := h
  exact ⟨la, lc, ka, kc, va, vc, h1, h2, h3, h4.below hb hB, h5.below hb hB⟩
theorem IsN.mono {B B' : Nat} {w : World} {cs : List Value} {n : Nt} (h : IsN B w cs n) (hB : B ≤ B') : IsN B' w cs n := by
  obtain ⟨la, lc, ka, kc, va, vc, h1, h2, h3, h4, h5⟩ := h
  exact ⟨la, lc, ka, kc, va, vc, h1, h2, h3, h4.mono hB, h5.mono hB⟩
theorem IsE.below {B B' : Nat} {w w' : World} {cs : List Value} {e : Et} (h : IsE B w cs e) (hb : Below B' w w') (hB : B ≤ B') : IsE B w' cs e := by
  obtain ⟨ka, kc, va, vc, h1, h2, h3⟩ := h
  exact ⟨ka, kc, va, vc, h1, h2, h3.below hb hB⟩
theorem IsE.mono {B B' : Nat} {w : World} {cs : List Value} {e : Et} (h : IsE B w cs e) (hB : B ≤ B') : IsE B' w cs e := by
  obtain ⟨ka, kc, va, vc, h1, h2, h3⟩ := h
  exact ⟨ka, kc, va, vc, h1, h2, h3.mono hB⟩
theorem RowR.mono {α : Type} {R R' : List Value → α → Prop} {size B B' : Nat} {w : World} {a : Option Addr} {l : List α} (h : RowR R size B w a l) (hB : B ≤ B') (hR : ∀ cs x, R cs x → R' cs x) : RowR R' size B' w a l := by
  intro i o ho
  obtain ⟨b, off, cs, h1, h2, h3, h4, h5⟩ := h i o ho
  exact ⟨b, off, cs, h1, by omega, h3, h4, hR _ _ h5⟩
theorem IsG.below {B B' : Nat} {w w' : World} {cs : List Value} {g : Gt} (h : IsG B w cs g) (hb : Below B' w w') (hB : B ≤ B') : IsG B w' cs g := by
  obtain ⟨na, nc, ea, ec, h1, h2, h3, h4, h5⟩ := h
  exact ⟨na, nc, ea, ec, h1, h2, h3, h4.below hb hB (fun _ _ h => h.below hb hB), h5.below hb hB (fun _ _ h => h.below hb hB)⟩
theorem IsG.mono {B B' : Nat} {w : World} {cs : List Value} {g : Gt} (h : IsG B w cs g) (hB : B ≤ B') : IsG B' w cs g := by
  obtain ⟨na, nc, ea, ec, h1, h2, h3, h4, h5⟩ := h
  exact ⟨na, nc, ea, ec, h1, h2, h3, h4.mono hB (fun _ _ h => h.mono hB), h5.mono hB (fun _ _ h => h.mono hB)⟩
/-! Weights. -/
def wtS (ks : List ByteArray) : Nat := (ks.map fun k => k.size + 1).sum
def wtN (n : Nt) : Nat := 1 + wtS n.labels + wtS n.keys + wtVs n.vals
def wtE (e : Et) : Nat := 1 + e.ty.size + wtS e.keys + wtVs e.vals
def wtG (g : Gt) : Nat := 1 + (g.nodes.map wtN).sum + (g.edges.map wtE).sum
/-! What came in. -/
section
variable {H : Type} {enc : TypeId × Value → H} {w : World} {base : Nat} {spare : Nat → Bool} {held : Bool}
theorem open_vals {fuel : Nat} {c : Value} {x : DataW H × List MemPlace} (h : DataW.trod enc Try.prog w base spare held fuel 36 [c] = some x) :
    ∃ (a : Option Addr) (cap : Nat) (l : List Vt), c = .slice a l.length cap ∧ SlOk a l.length cap ∧ wtVs l + 1 ≤ Rows.uptoBulk x.1 ∧ IsVs w.heap.size w a 0 l := by
  obtain ⟨a, cap, l, h1, h2, h3, h4, h5⟩ := open_rowsP (IsV w.heap.size w) wtV 6 Try.underlying36 (by kernel_rfl) (by omega) (fun n cs y hy _ hh => open_value _ n cs y (Nat.le_refl _) hh) h
  refine ⟨a, cap, l, h1, ⟨h2, h3⟩, by rw [wtVs_sum]; exact h4, IsVs.mk fun i t ht => ?_⟩
  obtain ⟨b, off, cs, q1, q2, _, q4, q5⟩ := h5 i t ht
  exact ⟨b, off, cs, q1, q2, by rwa [Nat.zero_add], q5⟩
theorem list4 {α : Type} {cs : List α} (h : cs.length = 4) : ∃ c0 c1 c2 c3, cs = [c0, c1, c2, c3] := by
  match cs, h with
  | [c0, c1, c2, c3], _ => exact ⟨c0, c1, c2, c3, rfl⟩
theorem list6 {α : Type} {cs : List α} (h : cs.length = 6) : ∃ c0 c1 c2 c3 c4 c5, cs = [c0, c1, c2, c3, c4, c5] := by
  match cs, h with
  | [c0, c1, c2, c3, c4, c5], _ => exact ⟨c0, c1, c2, c3, c4, c5, rfl⟩
theorem open_node {fuel : Nat} {cs : List Value} {x : DataW H × List MemPlace} (h : DataW.trod enc Try.prog w base spare held fuel 38 cs = some x) : ∃ n : Nt, IsN w.heap.size w cs n ∧ wtN n ≤ Rows.uptoBulk x.1 := by
  obtain ⟨xs, n, _, hx, hcl, hxl, hf⟩ := DataW.trod_struct Try.underlying38 h
  obtain ⟨c0, c1, c2, c3, rfl⟩ := list4 (hcl.trans (by kernel_rfl))
  obtain ⟨y0, e0, t0⟩ := field_trod hxl hf 0 _ rfl (by kernel_rfl) c0 rfl
  obtain ⟨y1, e1, t1⟩ := field_trod hxl hf 1 _ rfl (by kernel_rfl) c1 rfl
  obtain ⟨y2, e2, t2⟩ := field_trod hxl hf 2 _ rfl (by kernel_rfl) c2 rfl
  obtain ⟨y3, e3, t3⟩ := field_trod hxl hf 3 _ rfl (by kernel_rfl) c3 rfl
  obtain ⟨z0, z1, z2, z3, rfl⟩ := list4 (show xs.length = 4 from hxl)
  simp at e0 e1 e2 e3
  subst e0 e1 e2 e3
  obtain ⟨n0, g0, -, w0⟩ := DataW.trod_int Try.underlying2 t0
  obtain ⟨la, lc, ls, g1, l1, q1, s1, r1⟩ := open_strs t1
  obtain ⟨ka, kc, ks, g2, l2, q2, s2, r2⟩ := open_strs t2
  obtain ⟨va, vc, vs, g3, l3, s3, r3⟩ := open_vals t3
  injection g0 with g0
  subst g0 g1 g2 g3
  refine ⟨⟨n0, ls, ks, vs⟩, ⟨la, lc, ka, kc, va, vc, rfl, in64_of_wf w0, ⟨l1, q1⟩, r1, ⟨l2, q2⟩, l3, r2, r3⟩, ?_⟩
  rw [hx]
  simp only [wtN, wtS, Rows.uptoBulk, Rows.uptoBulkAll, List.map_cons, List.map_nil]
  omega
theorem open_edge {fuel : Nat} {cs : List Value} {x : DataW H × List MemPlace} (h : DataW.trod enc Try.prog w base spare held fuel 40 cs = some x) : ∃ n : Et, IsE w.heap.size w cs n ∧ wtE n ≤ Rows.uptoBulk x.1 := by
  obtain ⟨xs, n, _, hx, hcl, hxl, hf⟩ := DataW.trod_struct Try.underlying40 h
  obtain ⟨c0, c1, c2, c3, c4, c5, rfl⟩ := list6 (hcl.trans (by kernel_rfl))
  obtain ⟨y0, e0, t0⟩ := field_trod hxl hf 0 _ rfl (by kernel_rfl) c0 rfl
  obtain ⟨y1, e1, t1⟩ := field_trod hxl hf 1 _ rfl (by kernel_rfl) c1 rfl
  obtain ⟨y2, e2, t2⟩ := field_trod hxl hf 2 _ rfl (by kernel_rfl) c2 rfl
  obtain ⟨y3, e3, t3⟩ := field_trod hxl hf 3 _ rfl (by kernel_rfl) c3 rfl
  obtain ⟨y4, e4, t4⟩ := field_trod hxl hf 4 _ rfl (by kernel_rfl) c4 rfl
  obtain ⟨y5, e5, t5⟩ := field_trod hxl hf 5 _ rfl (by kernel_rfl) c5 rfl
  obtain ⟨z0, z1, z2, z3, z4, z5, rfl⟩ := list6 (show xs.length = 6 from hxl)
  simp at e0 e1 e2 e3 e4 e5
  subst e0 e1 e2 e3 e4 e5
  obtain ⟨n0, g0, -, w0⟩ := DataW.trod_int Try.underlying2 t0
  obtain ⟨n1, g1, -, w1⟩ := DataW.trod_int Try.underlying2 t1
  obtain ⟨n2, g2, -, w2⟩ := DataW.trod_int Try.underlying2 t2
  obtain ⟨s3, g3, p3, -⟩ := DataW.trod_string Try.underlying9 t3
  obtain ⟨ka, kc, ks, g4, l4, q4, s4, r4⟩ := open_strs t4
  obtain ⟨va, vc, vs, g5, l5, s5, r5⟩ := open_vals t5
  injection g0 with g0
  injection g1 with g1
  injection g2 with g2
  injection g3 with g3
  subst g0 g1 g2 g3 g4 g5
  refine ⟨⟨n0, n1, n2, s3, ks, vs⟩, ⟨ka, kc, va, vc, rfl, ⟨in64_of_wf w0, in64_of_wf w1, in64_of_wf w2⟩, ⟨l4, q4⟩, l5, r4, r5⟩, ?_⟩
  have h3 : Rows.uptoBulk z3.1 = s3.size + 1 := by rw [p3]; simp [Rows.uptoBulk]
  rw [hx]
  simp only [wtE, wtS, Rows.uptoBulk, Rows.uptoBulkAll, List.map_cons, List.map_nil]
  omega
theorem open_graph {fuel : Nat} {cs : List Value} {x : DataW H × List MemPlace} (h : DataW.trod enc Try.prog w base spare held fuel 25 cs = some x) : ∃ g : Gt, IsG w.heap.size w cs g ∧ wtG g ≤ Rows.uptoBulk x.1 := by
  obtain ⟨xs, n, _, hx, hcl, hxl, hf⟩ := DataW.trod_struct Try.underlying25 h
  obtain ⟨c0, c1, rfl⟩ : ∃ c0 c1, cs = [c0, c1] := by
    have h2 : cs.length = 2 := hcl.trans (by kernel_rfl)
    match cs, h2 with
    | [c0, c1], _ => exact ⟨c0, c1, rfl⟩
  obtain ⟨y0, e0, t0⟩ := field_trod hxl hf 0 _ rfl (by kernel_rfl) c0 rfl
  obtain ⟨y1, e1, t1⟩ := field_trod hxl hf 1 _ rfl (by kernel_rfl) c1 rfl
  obtain ⟨z0, z1, rfl⟩ : ∃ z0 z1, xs = [z0, z1] := by
    have h2 : xs.length = 2 := hxl
    match xs, h2 with
    | [c0, c1], _ => exact ⟨c0, c1, rfl⟩
  simp at e0 e1
  subst e0 e1
  obtain ⟨na, nc, ns, g0, l0, q0, s0, r0⟩ := open_rowsP (IsN w.heap.size w) wtN 4 Try.underlying22 (by kernel_rfl) (by omega) (fun n cs y hy _ hh => open_node hh) t0
  obtain ⟨ea, ec, es, g1, l1, q1, s1, r1⟩ := open_rowsP (IsE w.heap.size w) wtE 6 Try.underlying23 (by kernel_rfl) (by omega) (fun n cs y hy _ hh => open_edge hh) t1
  subst g0 g1
  refine ⟨⟨ns, es⟩, ⟨na, nc, ea, ec, rfl, ⟨l0, q0⟩, ⟨l1, q1⟩, r0, r1⟩, ?_⟩
  rw [hx]
  simp only [wtG, Rows.uptoBulk, Rows.uptoBulkAll, List.map_cons, List.map_nil]
  omega
end
end Go.Proofs.Ytoakloicjlfaaaa

/- Layer 14: names, properties: whether they may be. Conditions: the rows are there. -/
namespace Go.Proofs.Ytoakloicjlfaaaa
open Go.RowKit
set_option linter.unusedSimpArgs false
set_option linter.unusedVariables false

/-- All of the first n. -/
def allB (n : Nat) (f : Nat → Bool) : Bool := (List.range n).all f
theorem allB_true {n : Nat} {f : Nat → Bool} (h : ∀ i, i < n → f i = true) : allB n f = true := by
  unfold allB
  rw [List.all_eq_true]
  intro i hi
  exact h i (List.mem_range.1 hi)
theorem allB_false {n : Nat} {f : Nat → Bool} {i : Nat} (hi : i < n) (h : f i = false) : allB n f = false := by
  unfold allB
  rw [List.all_eq_false]
  exact ⟨i, List.mem_range.2 hi, by rw [h]; simp⟩
theorem allB_at {n : Nat} {f : Nat → Bool} (h : allB n f = true) {i : Nat} (hi : i < n) : f i = true := by
  unfold allB at h
  rw [List.all_eq_true] at h
  exact h i (List.mem_range.2 hi)
def ltS (x y : ByteArray) : Bool := Op.bytesLess x.toList y.toList
def okName (s : ByteArray) : Bool := decide (1 ≤ s.size) && decide (s.size ≤ 64)
/-- Element i is a name, and above the one ahead. -/
def riseAt (ks : List ByteArray) (i : Nat) : Bool := match ks[i]? with
  | none => true
  | some k => okName k && (match ks[i - 1]? with | none => true | some p => decide (i = 0) || ltS p k)
def risingB (ks : List ByteArray) : Bool := allB ks.length (riseAt ks)
def propB : Vt → Bool
  | .mk k b i s l ks => decide (k ≠ 0) && mayB (.mk k b i s l ks) && plainV (.mk k b i s l ks)
def propAt (vs : List Vt) (i : Nat) : Bool := match vs[i]? with | none => true | some v => propB v
def propsB (ks : List ByteArray) (vs : List Vt) : Bool := decide (ks.length = vs.length) && risingB ks && allB vs.length (propAt vs)
def mayN (n : Nt) : Bool := decide (1 ≤ n.id) && risingB n.labels && propsB n.keys n.vals
def mayE (e : Et) : Bool := decide (1 ≤ e.id) && okName e.ty && propsB e.keys e.vals
theorem riseAt_no {ks : List ByteArray} {j : Nat} {k : ByteArray} (hk : ks[j]? = some k) (h : okName k = false) : riseAt ks j = false := by
  unfold riseAt
  rw [hk]
  simp [h]
theorem riseAt_zero {ks : List ByteArray} {k : ByteArray} (hk : ks[0]? = some k) (h : okName k = true) : riseAt ks 0 = true := by
  unfold riseAt
  rw [hk]
  simp [hk, h]
theorem riseAt_succ {ks : List ByteArray} {m : Nat} {k p : ByteArray} (hk : ks[m + 1]? = some k) (hp : ks[m]? = some p) (h : okName k = true) : riseAt ks (m + 1) = ltS p k := by
  unfold riseAt
  rw [hk]
  simp [hp, h]
theorem size_zero {s : ByteArray} (h : s.size = 0) : s = ⟨#[]⟩ := by
  obtain ⟨⟨l⟩⟩ := s
  cases l with
  | nil => rfl
  | cons x l => simp [ByteArray.size] at h
theorem name_any (s : ByteArray) (w : World) : Calls Try.prog 76 #[.string s] w fun e w' => e = .returned (.bool (okName s)) ∧ w = w' := by
  by_cases h0 : s.size = 0
  · obtain rfl := size_zero h0
    go_enter Try.func76, Try.ntmps76
    go_wp2_with fail
    go_ret
    exact ⟨rfl, rfl⟩
  · have hne : ¬ s.toList = [] := fun e => h0 (by rw [ba_list] at e; obtain ⟨⟨l⟩⟩ := s; simp at e; subst e; rfl)
    have hemp : s.toList.isEmpty = false := by cases h : s.toList with | nil => exact absurd h hne | cons x l => rfl
    have h1 : decide (1 ≤ s.size) = true := decide_eq_true (by omega)
    unfold okName
    rw [h1, Bool.true_and]
    clear h1
    by_cases h2 : s.size ≤ 64
    · have h2' : (s.size : Int) ≤ 64 := by omega
      rw [decide_eq_true h2]
      go_enter Try.func76, Try.ntmps76
      go_wp2_with fail
      go_ret
      exact ⟨rfl, rfl⟩
    · have h2' : ¬ (s.size : Int) ≤ 64 := by omega
      rw [decide_eq_false h2]
      go_enter Try.func76, Try.ntmps76
      go_wp2_with fail
      go_ret
      exact ⟨rfl, rfl⟩
theorem rkey11_any (s : ByteArray) (w : World) : Calls Try.prog 61 #[.string s] w fun e w' => e = .returned (.bool (okName s)) ∧ w = w' := by
  unfold okName
  by_cases h1 : 1 ≤ s.size
  · have h1' : (1 : Int) ≤ s.size := by omega
    rw [decide_eq_true h1, Bool.true_and]
    by_cases h2 : s.size ≤ 64
    · have h2' : (s.size : Int) ≤ 64 := by omega
      rw [decide_eq_true h2]
      go_enter Try.func61, Try.ntmps61
      go_wp2_with fail
      go_ret
      exact ⟨rfl, rfl⟩
    · have h2' : ¬ (s.size : Int) ≤ 64 := by omega
      rw [decide_eq_false h2]
      go_enter Try.func61, Try.ntmps61
      go_wp2_with fail
      go_ret
      exact ⟨rfl, rfl⟩
  · have h1' : ¬ (1 : Int) ≤ s.size := by omega
    rw [decide_eq_false h1, Bool.false_and]
    go_enter Try.func61, Try.ntmps61
    go_wp2_with fail
    go_ret
    exact ⟨rfl, rfl⟩
set_option maxRecDepth 100000 in
set_option maxHeartbeats 4000000 in
theorem rising_any (ks : List ByteArray) (ka : Option Addr) (kc B : Nat) (w : World) (hk : StrRow B w ka ks) (hB : B ≤ w.heap.size) (hl : ks.length ≤ 9223372036854775807) :
    Calls Try.prog 70 #[.slice ka ks.length kc] w fun e w' => e = .returned (.bool (risingB ks)) ∧ w = w' := by
  have HK := Lib.hid hk
  obtain ⟨R, hR⟩ : ∃ R, risingB ks = R := ⟨_, rfl⟩
  have HR := Lib.hid hR
  rw [hR]
  clear hk hR
  go_enter Try.func70, Try.ntmps70
  go_wp2_with fail
  go_loopw [7] (fun iv wr => ∃ j : Nat, iv = .int .i64 j ∧ j ≤ ks.length ∧ (∀ i, i < j → riseAt ks i = true) ∧ wr = w) (fun iv _ => ks.length - (intOf iv).toNat)
  case atStart => exact ⟨0, rfl, Nat.zero_le _, fun i hi => by omega, rfl⟩
  case round =>
    obtain ⟨j, rfl, hj, hall, hww⟩ := hrel
    subst hww
    have HALL := Lib.hid hall
    clear hall
    by_cases hlt : j < ks.length
    · have hlt' : (j : Int) < ks.length := by omega
      have hj0 : (0 : Int) ≤ (j : Int) := by omega
      obtain ⟨k, hk⟩ := get_some hlt
      obtain ⟨b, off, rfl, hb, ck⟩ := HK.out.get hk
      have HN := Lib.hid (name_any k wr)
      cases hok : okName k with
      | false =>
        rw [hok] at HN
        have HF : Hid (R = false) := Lib.hid (by rw [← HR.out]; exact allB_false hlt (riseAt_no hk hok))
        clear hok hk
        go_wp2_with fail
        refine HN.out.mono ?_
        rintro e w2 ⟨rfl, rfl⟩
        go_wp2_with fail
        go_ret
        exact ⟨by rw [HF.out]; rfl, rfl⟩
      | true =>
        rw [hok] at HN
        by_cases h0 : j = 0
        · have h0' : ¬ (0 : Int) < (j : Int) := by omega
          have HA : Hid (riseAt ks j = true) := Lib.hid (by subst h0; exact riseAt_zero hk hok)
          clear hok hk h0
          go_wp2_with fail
          refine HN.out.mono ?_
          rintro e w2 ⟨rfl, rfl⟩
          go_wp2_with fail
          go_roundw
          case rel => exact ⟨j + 1, by go_num, by omega, fun i hi => (Nat.lt_or_ge i j).elim (fun h => HALL.out i h) (fun h => by rw [show i = j from by omega]; exact HA.out), by first | rfl | trivial⟩
          case measure => simp [intOf]; omega
        · obtain ⟨m, hm⟩ : ∃ m, m + 1 = j := ⟨j - 1, by omega⟩
          have h0' : (0 : Int) < (j : Int) := by omega
          have h0n : 0 < j := by omega
          have hwj : IntKind.i64.wrap ((j : Int) - 1) = (m : Int) := by rw [IntWalk.i64_in _ (by omega)]; omega
          have hml : (m : Int) < ks.length := by omega
          have hm0 : (0 : Int) ≤ (m : Int) := by omega
          obtain ⟨p, hp⟩ := get_some (l := ks) (j := m) (by omega)
          obtain ⟨b', off', e1, _, cp⟩ := HK.out.get hp
          injection e1 with e1
          injection e1 with e1 e2
          subst e1 e2
          have hrs : riseAt ks j = ltS p k := by rw [← hm] at hk ⊢; exact riseAt_succ hk hp hok
          have HM := Lib.hid hm
          clear hok hk hp hm
          cases hls : ltS p k with
          | true =>
            have hls' : Op.bytesLess p.toList k.toList = true := hls
            have HA : Hid (riseAt ks j = true) := Lib.hid (hrs.trans hls)
            clear hrs hls
            go_wp2_with fail
            refine HN.out.mono ?_
            rintro e w2 ⟨rfl, rfl⟩
            go_wp2_with fail
            go_roundw
            case rel => exact ⟨j + 1, by go_num, by omega, fun i hi => (Nat.lt_or_ge i j).elim (fun h => HALL.out i h) (fun h => by rw [show i = j from by omega]; exact HA.out), by first | rfl | trivial⟩
            case measure => simp [intOf]; omega
          | false =>
            have hls' : Op.bytesLess p.toList k.toList = false := hls
            have HF : Hid (R = false) := Lib.hid (by rw [← HR.out]; exact allB_false hlt (hrs.trans hls))
            clear hrs hls
            go_wp2_with fail
            refine HN.out.mono ?_
            rintro e w2 ⟨rfl, rfl⟩
            go_wp2_with fail
            go_ret
            exact ⟨by rw [HF.out]; rfl, rfl⟩
    · have hlt' : ¬ (j : Int) < ks.length := by omega
      have HF : Hid (R = true) := Lib.hid (by rw [← HR.out]; exact allB_true (fun i hi => HALL.out i (by omega)))
      go_wp2_with fail
      go_ret
      exact ⟨by rw [HF.out]; rfl, rfl⟩
end Go.Proofs.Ytoakloicjlfaaaa

/- A region that draws its order and ends in stores: what is held need not hold behind those. Conditions: the last stores wait for what is taken first. -/
namespace Go.Proofs.Ytoakloicjlfaaaa
set_option linter.unusedVariables false

section
variable {P : Program} {ops : Array Oper} {Q : Exit → Act → World → Prop} {md : Region.Mode} {S : World → Prop} {tl : Nat → Bool}

/-- Whatever order is picked, and S holds behind every operation but the last ones (tl). -/
def wpAnyJ (P : Program) (md : Region.Mode) (ops : Array Oper) (Q : Exit → Act → World → Prop) (S : World → Prop) (tl : Nat → Bool) : Nat → Array Bool → Act → World → Prop
  | 0, listed, a, w => Region.ready md ops listed = [] ∧ Q .normal a w
  | fuel + 1, listed, a, w =>
    (Region.ready md ops listed = [] → Q .normal a w) ∧
    ∀ i ∈ Region.ready md ops listed, wpOp P ops Q i (fun a' w' => (tl i = false → S w → S w') ∧ wpAnyJ P md ops Q S tl fuel (listed.setIfInBounds i true) a' w') a w
theorem wpAny_of_J : ∀ (fuel : Nat) (listed : Array Bool) (a : Act) (w : World), wpAnyJ P md ops Q S tl fuel listed a w → wpAny P md ops Q fuel listed a w
  | 0, _, _, _, h => h
  | fuel + 1, _, _, _, h => ⟨h.1, fun i hi => wpOp_mono (fun a' w' h' => wpAny_of_J fuel _ a' w' h'.2) (h.2 i hi)⟩
/-- Each of the last ones waits for i. -/
def tailWaits (md : Region.Mode) (ops : Array Oper) (tl : Nat → Bool) (i : Nat) : Bool :=
  (List.range ops.size).all fun j => !tl j || match ops[j]? with
    | some o => o.after.any fun e => Region.binds md e && e.on == i
    | none => true
theorem tailWaits_spec {i : Nat} (h : tailWaits md ops tl i = true) (j : Nat) (oj : Oper) (hj : ops[j]? = some oj) (ht : tl j = true) : ∃ e ∈ oj.after, Region.binds md e = true ∧ e.on = i := by
  unfold tailWaits at h
  rw [List.all_eq_true] at h
  have h1 := h j (List.mem_range.2 (Array.getElem?_eq_some_iff.1 hj).1)
  simp only [ht, Bool.not_true, Bool.false_or, hj] at h1
  obtain ⟨e, he, hb⟩ := Array.any_eq_true'.1 h1
  simp only [Bool.and_eq_true, beq_iff_eq] at hb
  exact ⟨e, he, hb.1, hb.2⟩
theorem wpAnyJ_first {i : Nat} {oi : Oper} {v : Value} (hi : ops[i]? = some oi) (hsel : ∀ (j : Nat) (o : Oper) cs b, ops[j]? = some o → o.op ≠ .select cs b)
    (htl : ∀ j oj, ops[j]? = some oj → tl j = true → ∃ e ∈ oj.after, Region.binds md e = true ∧ e.on = i)
    (hQ : ∀ c a w, Q (.panic c) (a.put oi.dst v) w → Q (.panic c) a w) :
    ∀ (fuel : Nat) (listed : Array Bool) (a : Act) (w : World),
      (∀ j oj, ops[j]? = some oj → j ≠ i → listed.getD j true = false → (∀ e ∈ oj.after, Region.binds md e = true → e.on ≠ i) → oi.apart ops oj = true) →
      i ∈ Region.ready md ops listed → YieldsIf P ops S oi v a → S w →
      wpAnyJ P md ops Q S tl fuel (listed.setIfInBounds i true) (a.put oi.dst v) w → wpAnyJ P md ops Q S tl (fuel + 1) listed a w := by
  intro fuel
  induction fuel with
  | zero =>
    intro listed a w _ hr hy hS H
    refine ⟨fun h => (by rw [h] at hr; cases hr), fun j hj => ?_⟩
    by_cases hji : j = i
    · subst hji; exact hy.wpOp hi hS ⟨fun _ h => h, H⟩
    · have := ready_mono hj hji
      rw [H.1] at this
      cases this
  | succ fuel ih =>
    intro listed a w hfree hr hy hS H
    refine ⟨fun h => (by rw [h] at hr; cases hr), fun j hj => ?_⟩
    by_cases hji : j = i
    · subst hji; exact hy.wpOp hi hS ⟨fun _ h => h, H⟩
    · have h1 := H.2 j (ready_mono hj hji)
      obtain ⟨hjun, oj, hoj, hall⟩ := mem_ready.1 hj
      have hnot : ∀ e ∈ oj.after, Region.binds md e = true → e.on ≠ i := fun e he hb heq => by
        have h1 := hall e he hb
        have h0 := (mem_ready.1 hr).1
        rw [heq] at h1
        rcases Nat.lt_or_ge i listed.size with h' | h'
        · simp [h'] at h0 h1; rw [h0] at h1; cases h1
        · simp [Array.getElem?_eq_none h'] at h1
      have htj : tl j = false := by
        cases ht : tl j with
        | false => rfl
        | true =>
          obtain ⟨e, he, hb, heq⟩ := htl j oj hoj ht
          exact absurd heq (hnot e he hb)
      have h2 := wpOp_putIf hoj (hfree j oj hoj hji hjun hnot) (fun cs b => hsel i oi cs b hi) (fun cs b => hsel j oj cs b hoj) hQ hy h1
      have hfree' : ∀ k ok, ops[k]? = some ok → k ≠ i → (listed.setIfInBounds j true).getD k true = false →
          (∀ e ∈ ok.after, Region.binds md e = true → e.on ≠ i) → oi.apart ops ok = true := fun k ok hk hki hun hno => by
        refine hfree k ok hk hki ?_ hno
        by_cases hjk : j = k
        · subst hjk; exact hjun
        · rw [getD_set_ne true hjk] at hun; exact hun
      refine wpOp_mono (fun a' w' h3 => ⟨fun _ _ => h3.2.1 htj hS, ih (listed.setIfInBounds j true) a' w' hfree' (ready_mono hr (Ne.symm hji)) h3.1 (h3.2.1 htj hS) ?_⟩) h2
      rw [Array.setIfInBounds_comm _ _ hji]
      exact h3.2.2
theorem wpAnyJ_take {i : Nat} {oi : Oper} {v : Value} {fuel : Nat} {listed : Array Bool} {a : Act} {w : World} (hi : ops[i]? = some oi)
    (hs : Region.noSelect ops = true) (hf : Region.free md ops listed i = true) (hr : (Region.ready md ops listed).contains i = true) (ht : tailWaits md ops tl i = true)
    (hQ : ∀ c a w, Q (.panic c) (a.put oi.dst v) w → Q (.panic c) a w) (hy : YieldsIf P ops S oi v a) (hS : S w)
    (h : wpAnyJ P md ops Q S tl fuel (listed.setIfInBounds i true) (a.put oi.dst v) w) : wpAnyJ P md ops Q S tl (fuel + 1) listed a w :=
  wpAnyJ_first hi (Region.noSelect_spec hs) (tailWaits_spec ht) hQ fuel listed a w (Region.free_spec hi hf) (by simpa using hr) hy hS h
/-- What yields in whatever world may be taken first without more. -/
theorem wpAnyJ_pure {i : Nat} {oi : Oper} {v : Value} (hi : ops[i]? = some oi) (hsel : ∀ (j : Nat) (o : Oper) cs b, ops[j]? = some o → o.op ≠ .select cs b)
    (hQ : ∀ c a w, Q (.panic c) (a.put oi.dst v) w → Q (.panic c) a w) :
    ∀ (fuel : Nat) (listed : Array Bool) (a : Act) (w : World),
      (∀ j oj, ops[j]? = some oj → j ≠ i → listed.getD j true = false → (∀ e ∈ oj.after, Region.binds md e = true → e.on ≠ i) → oi.apart ops oj = true) →
      i ∈ Region.ready md ops listed → YieldsIf P ops (fun _ => True) oi v a →
      wpAnyJ P md ops Q S tl fuel (listed.setIfInBounds i true) (a.put oi.dst v) w → wpAnyJ P md ops Q S tl (fuel + 1) listed a w := by
  intro fuel
  induction fuel with
  | zero =>
    intro listed a w _ hr hy H
    refine ⟨fun h => (by rw [h] at hr; cases hr), fun j hj => ?_⟩
    by_cases hji : j = i
    · subst hji; exact hy.wpOp hi trivial ⟨fun _ h => h, H⟩
    · have := ready_mono hj hji
      rw [H.1] at this
      cases this
  | succ fuel ih =>
    intro listed a w hfree hr hy H
    refine ⟨fun h => (by rw [h] at hr; cases hr), fun j hj => ?_⟩
    by_cases hji : j = i
    · subst hji; exact hy.wpOp hi trivial ⟨fun _ h => h, H⟩
    · have h1 := H.2 j (ready_mono hj hji)
      obtain ⟨hjun, oj, hoj, hall⟩ := mem_ready.1 hj
      have hnot : ∀ e ∈ oj.after, Region.binds md e = true → e.on ≠ i := fun e he hb heq => by
        have h1 := hall e he hb
        have h0 := (mem_ready.1 hr).1
        rw [heq] at h1
        rcases Nat.lt_or_ge i listed.size with h' | h'
        · simp [h'] at h0 h1; rw [h0] at h1; cases h1
        · simp [Array.getElem?_eq_none h'] at h1
      have h2 := wpOp_putIf hoj (hfree j oj hoj hji hjun hnot) (fun cs b => hsel i oi cs b hi) (fun cs b => hsel j oj cs b hoj) hQ hy h1
      have hfree' : ∀ k ok, ops[k]? = some ok → k ≠ i → (listed.setIfInBounds j true).getD k true = false →
          (∀ e ∈ ok.after, Region.binds md e = true → e.on ≠ i) → oi.apart ops ok = true := fun k ok hk hki hun hno => by
        refine hfree k ok hk hki ?_ hno
        by_cases hjk : j = k
        · subst hjk; exact hjun
        · rw [getD_set_ne true hjk] at hun; exact hun
      refine wpOp_mono (fun a' w' h3 => ⟨h3.2.1, ih (listed.setIfInBounds j true) a' w' hfree' (ready_mono hr (Ne.symm hji)) h3.1 ?_⟩) h2
      rw [Array.setIfInBounds_comm _ _ hji]
      exact h3.2.2
theorem wpAnyJ_take0 {i : Nat} {oi : Oper} {v : Value} {fuel : Nat} {listed : Array Bool} {a : Act} {w : World} (hi : ops[i]? = some oi)
    (hs : Region.noSelect ops = true) (hf : Region.free md ops listed i = true) (hr : (Region.ready md ops listed).contains i = true)
    (hQ : ∀ c a w, Q (.panic c) (a.put oi.dst v) w → Q (.panic c) a w) (hy : YieldsIf P ops (fun _ => True) oi v a)
    (h : wpAnyJ P md ops Q S tl fuel (listed.setIfInBounds i true) (a.put oi.dst v) w) : wpAnyJ P md ops Q S tl (fuel + 1) listed a w :=
  wpAnyJ_pure hi (Region.noSelect_spec hs) hQ fuel listed a w (Region.free_spec hi hf) (by simpa using hr) hy h
theorem wp_region_J {id : Nat} {a : Act} {w : World} (tl : Nat → Bool) (hm : P.follows .mixedOrders = true)
    (h : wpAnyJ P .any ops Q S tl ops.size (Array.replicate ops.size false) a w.drew) : (Code.region id ops true).wp P Q a w := by
  have h1 : wpAnyH P .any ops Q (fun _ => True) ops.size (Array.replicate ops.size false) a w.drew := by
    have h2 : ∀ (fuel : Nat) (listed : Array Bool) (a : Act) (w : World), wpAnyJ P .any ops Q S tl fuel listed a w → wpAnyH P .any ops Q (fun _ => True) fuel listed a w := by
      intro fuel
      induction fuel with
      | zero => intro listed a w h; exact h
      | succ fuel ih => intro listed a w h; exact ⟨h.1, fun i hi => wpOp_mono (fun a' w' h' => ⟨trivial, ih _ a' w' h'.2⟩) (h.2 i hi)⟩
    exact h2 _ _ _ _ h
  exact wp_region_held hm h1
def AllReadyJ (P : Program) (md : Region.Mode) (ops : Array Oper) (Q : Exit → Act → World → Prop) (S : World → Prop) (tl : Nat → Bool) (fuel : Nat) (listed : Array Bool) (a : Act) (w : World) (rs : List Nat) : Prop :=
  ∀ i ∈ rs, wpOp P ops Q i (fun a' w' => (tl i = false → S w → S w') ∧ wpAnyJ P md ops Q S tl fuel (listed.setIfInBounds i true) a' w') a w
theorem AllReadyJ.nil {fuel : Nat} {listed : Array Bool} {a : Act} {w : World} : AllReadyJ P md ops Q S tl fuel listed a w [] := fun _ h => by cases h
theorem AllReadyJ.cons {fuel : Nat} {listed : Array Bool} {a : Act} {w : World} {i : Nat} {o : Oper} {rs : List Nat} (ho : ops[i]? = some o)
    (h : ∀ K' : Act → World → Prop, Shut (∀ a' w', (tl i = false → S w → S w') → wpAnyJ P md ops Q S tl fuel (listed.setIfInBounds i true) a' w' → K' a' w') → if Region.wanted o (yielded ops a.tmps) = true then o.wp P a w K' Q else K' (a.put o.dst undef) w)
    (hs : AllReadyJ P md ops Q S tl fuel listed a w rs) : AllReadyJ P md ops Q S tl fuel listed a w (i :: rs) := fun j hj => by
  rcases List.mem_cons.1 hj with rfl | hj
  · exact wpOp_step ho (fun K' hK => h K' (fun a w hS hW => hK a w ⟨hS, hW⟩))
  · exact hs j hj
theorem wpAnyJ_ready {rs : List Nat} {fuel : Nat} {listed : Array Bool} {a : Act} {w : World} (hr : Region.ready md ops listed = rs) (hne : rs ≠ [])
    (h : AllReadyJ P md ops Q S tl fuel listed a w rs) : wpAnyJ P md ops Q S tl (fuel + 1) listed a w :=
  ⟨fun h0 => absurd (hr ▸ h0) hne, hr ▸ h⟩
theorem wpAnyJ_done {listed : Array Bool} {a : Act} {w : World} (hr : Region.ready md ops listed = []) (h : Q .normal a w) :
    ∀ fuel, wpAnyJ P md ops Q S tl fuel listed a w
  | 0 => ⟨hr, h⟩
  | fuel + 1 => ⟨fun _ => h, fun i hi => by rw [hr] at hi; cases hi⟩
end
end Go.Proofs.Ytoakloicjlfaaaa

/- Layer 14: the reference's rising. Conditions: the row is there. -/
namespace Go.Proofs.Ytoakloicjlfaaaa
open Go.RowKit
set_option linter.unusedSimpArgs false
set_option linter.unusedVariables false

set_option maxRecDepth 100000 in
set_option maxHeartbeats 4000000 in
theorem rrising_any (ks : List ByteArray) (ka : Option Addr) (kc B : Nat) (w : World) (hk : StrRow B w ka ks) (hB : B ≤ w.heap.size) (hl : ks.length ≤ 9223372036854775807) :
    Calls Try.prog 51 #[.slice ka ks.length kc] w fun e w' => e = .returned (.bool (risingB ks)) ∧ Below w.heap.size w w' := by
  have HK := Lib.hid hk
  obtain ⟨R, hR⟩ : ∃ R, risingB ks = R := ⟨_, rfl⟩
  have HR := Lib.hid hR
  rw [hR]
  clear hk hR
  go_enter Try.func51, Try.ntmps51
  go_wp2_with fail
  go_loopw [3] (fun iv wr => ∃ j : Nat, iv = .int .i64 j ∧ j ≤ ks.length ∧ (∀ i, i < j → riseAt ks i = true) ∧ Below w.heap.size w wr) (fun iv _ => ks.length - (intOf iv).toNat)
  case atStart => exact ⟨0, rfl, Nat.zero_le _, fun i hi => by omega, Below.refl _ _⟩
  case round =>
    obtain ⟨j, rfl, hj, hall, hb⟩ := hrel
    have HALL := Lib.hid hall
    have HBR := hb
    clear hall
    by_cases hlt : j < ks.length
    · have hlt' : (j : Int) < ks.length := by omega
      have hj0 : (0 : Int) ≤ (j : Int) := by omega
      have hwi : IntKind.i64.wrap ((j : Int) + 1) = (j : Int) + 1 := IntWalk.i64_in _ (by omega)
      obtain ⟨k, hk⟩ := get_some hlt
      obtain ⟨b, off, rfl, hbb, ck⟩ := StrRow.get (HK.out.below hb hB) hk
      have HN := Lib.hid (fun u => rkey11_any k u)
      cases hok : okName k with
      | false =>
        rw [hok] at HN
        have HF : Hid (R = false) := Lib.hid (by rw [← HR.out]; exact allB_false hlt (riseAt_no hk hok))
        clear hok hk
        go_wp2_with fail
        refine wp_region_noPanic ?_
        refine wp_region_J (S := fun u : World => u.cell? ⟨b, off + j, none⟩ = some (.string k)) (fun _ => false) (by kernel_rfl) ?_
        have hHeld : (fun u : World => u.cell? ⟨b, off + j, none⟩ = some (.string k)) wr.drew := ck
        refine wpAnyJ_take0 (i := 0) (v := ?_) rfl (by kernel_rfl) (by kernel_rfl) (by kernel_rfl) (fun _ _ _ h => h) (Or.inl ⟨by rfl, ?_⟩) ?_
        rotate_left
        focus ((intro w hSw; clear hSw; go_simp); try with_reducible rfl)
        (try simp only [Act.put, List.getElem_toArray, List.getElem_cons_zero, List.getElem_cons_succ, List.setIfInBounds_toArray, List.set_cons_zero, List.set_cons_succ])
        refine wpAnyJ_take0 (i := 1) (v := ?_) rfl (by kernel_rfl) (by kernel_rfl) (by kernel_rfl) (fun _ _ _ h => h) (Or.inl ⟨by rfl, ?_⟩) ?_
        rotate_left
        focus ((intro w hSw; clear hSw; go_simp); try with_reducible rfl)
        (try simp only [Act.put, List.getElem_toArray, List.getElem_cons_zero, List.getElem_cons_succ, List.setIfInBounds_toArray, List.set_cons_zero, List.set_cons_succ])
        refine wpAnyJ_take0 (i := 2) (v := ?_) rfl (by kernel_rfl) (by kernel_rfl) (by kernel_rfl) (fun _ _ _ h => h) (Or.inl ⟨by rfl, ?_⟩) ?_
        rotate_left
        focus ((intro w hSw; clear hSw; go_simp); try with_reducible rfl)
        (try simp only [Act.put, List.getElem_toArray, List.getElem_cons_zero, List.getElem_cons_succ, List.setIfInBounds_toArray, List.set_cons_zero, List.set_cons_succ])
        refine wpAnyJ_take (i := 3) (v := ?_) rfl (by kernel_rfl) (by kernel_rfl) (by kernel_rfl) (by kernel_rfl) (fun _ _ _ h => h) (Or.inl ⟨by rfl, ?_⟩) (by assumption) ?_
        rotate_left
        focus ((intro w hSw; (try dsimp only at hSw); go_simp); try with_reducible rfl)
        (try simp only [Act.put, List.getElem_toArray, List.getElem_cons_zero, List.getElem_cons_succ, List.setIfInBounds_toArray, List.set_cons_zero, List.set_cons_succ])
        refine wpAnyJ_ready (rs := [4]) (by kernel_rfl) (by simp) ?_
        refine AllReadyJ.cons rfl (fun KK hKK => ?_) AllReadyJ.nil
        go_simp
        go_at_call 61
        refine (HN.out _).mono ?_
        rintro e u1 ⟨rfl, rfl⟩
        refine hKK.out _ _ (fun _ h => h) ?_
        clear hKK KK
        (try simp only [Act.put, List.getElem_toArray, List.getElem_cons_zero, List.getElem_cons_succ, List.setIfInBounds_toArray, List.set_cons_zero, List.set_cons_succ])
        refine wpAnyJ_take0 (i := 5) (v := ?_) rfl (by kernel_rfl) (by kernel_rfl) (by kernel_rfl) (fun _ _ _ h => h) (Or.inl ⟨by rfl, ?_⟩) ?_
        rotate_left
        focus ((intro w hSw; clear hSw; go_simp); try with_reducible rfl)
        (try simp only [Act.put, List.getElem_toArray, List.getElem_cons_zero, List.getElem_cons_succ, List.setIfInBounds_toArray, List.set_cons_zero, List.set_cons_succ])
        refine wpAnyJ_take0 (i := 6) (v := ?_) rfl (by kernel_rfl) (by kernel_rfl) (by kernel_rfl) (fun _ _ _ h => h) (Or.inl ⟨by rfl, ?_⟩) ?_
        rotate_left
        focus ((intro w hSw; clear hSw; go_simp); try with_reducible rfl)
        (try simp only [Act.put, List.getElem_toArray, List.getElem_cons_zero, List.getElem_cons_succ, List.setIfInBounds_toArray, List.set_cons_zero, List.set_cons_succ])
        refine wpAnyJ_take0 (i := 7) (v := undef) rfl (by kernel_rfl) (by kernel_rfl) (by kernel_rfl) (fun _ _ _ h => h) (Or.inr ⟨by rfl, rfl⟩) ?_
        (try simp only [Act.put, List.getElem_toArray, List.getElem_cons_zero, List.getElem_cons_succ, List.setIfInBounds_toArray, List.set_cons_zero, List.set_cons_succ])
        refine wpAnyJ_take0 (i := 8) (v := undef) rfl (by kernel_rfl) (by kernel_rfl) (by kernel_rfl) (fun _ _ _ h => h) (Or.inr ⟨by rfl, rfl⟩) ?_
        (try simp only [Act.put, List.getElem_toArray, List.getElem_cons_zero, List.getElem_cons_succ, List.setIfInBounds_toArray, List.set_cons_zero, List.set_cons_succ])
        refine wpAnyJ_take0 (i := 9) (v := undef) rfl (by kernel_rfl) (by kernel_rfl) (by kernel_rfl) (fun _ _ _ h => h) (Or.inr ⟨by rfl, rfl⟩) ?_
        (try simp only [Act.put, List.getElem_toArray, List.getElem_cons_zero, List.getElem_cons_succ, List.setIfInBounds_toArray, List.set_cons_zero, List.set_cons_succ])
        refine wpAnyJ_take0 (i := 10) (v := undef) rfl (by kernel_rfl) (by kernel_rfl) (by kernel_rfl) (fun _ _ _ h => h) (Or.inr ⟨by rfl, rfl⟩) ?_
        (try simp only [Act.put, List.getElem_toArray, List.getElem_cons_zero, List.getElem_cons_succ, List.setIfInBounds_toArray, List.set_cons_zero, List.set_cons_succ])
        refine wpAnyJ_take0 (i := 11) (v := undef) rfl (by kernel_rfl) (by kernel_rfl) (by kernel_rfl) (fun _ _ _ h => h) (Or.inr ⟨by rfl, rfl⟩) ?_
        (try simp only [Act.put, List.getElem_toArray, List.getElem_cons_zero, List.getElem_cons_succ, List.setIfInBounds_toArray, List.set_cons_zero, List.set_cons_succ])
        refine wpAnyJ_take0 (i := 12) (v := undef) rfl (by kernel_rfl) (by kernel_rfl) (by kernel_rfl) (fun _ _ _ h => h) (Or.inr ⟨by rfl, rfl⟩) ?_
        (try simp only [Act.put, List.getElem_toArray, List.getElem_cons_zero, List.getElem_cons_succ, List.setIfInBounds_toArray, List.set_cons_zero, List.set_cons_succ])
        refine wpAnyJ_take0 (i := 13) (v := undef) rfl (by kernel_rfl) (by kernel_rfl) (by kernel_rfl) (fun _ _ _ h => h) (Or.inr ⟨by rfl, rfl⟩) ?_
        (try simp only [Act.put, List.getElem_toArray, List.getElem_cons_zero, List.getElem_cons_succ, List.setIfInBounds_toArray, List.set_cons_zero, List.set_cons_succ])
        refine wpAnyJ_take0 (i := 14) (v := undef) rfl (by kernel_rfl) (by kernel_rfl) (by kernel_rfl) (fun _ _ _ h => h) (Or.inr ⟨by rfl, rfl⟩) ?_
        (try simp only [Act.put, List.getElem_toArray, List.getElem_cons_zero, List.getElem_cons_succ, List.setIfInBounds_toArray, List.set_cons_zero, List.set_cons_succ])
        refine wpAnyJ_take0 (i := 15) (v := undef) rfl (by kernel_rfl) (by kernel_rfl) (by kernel_rfl) (fun _ _ _ h => h) (Or.inr ⟨by rfl, rfl⟩) ?_
        (try simp only [Act.put, List.getElem_toArray, List.getElem_cons_zero, List.getElem_cons_succ, List.setIfInBounds_toArray, List.set_cons_zero, List.set_cons_succ])
        refine wpAnyJ_take0 (i := 16) (v := undef) rfl (by kernel_rfl) (by kernel_rfl) (by kernel_rfl) (fun _ _ _ h => h) (Or.inr ⟨by rfl, rfl⟩) ?_
        (try simp only [Act.put, List.getElem_toArray, List.getElem_cons_zero, List.getElem_cons_succ, List.setIfInBounds_toArray, List.set_cons_zero, List.set_cons_succ])
        refine wpAnyJ_take0 (i := 17) (v := undef) rfl (by kernel_rfl) (by kernel_rfl) (by kernel_rfl) (fun _ _ _ h => h) (Or.inr ⟨by rfl, rfl⟩) ?_
        (try simp only [Act.put, List.getElem_toArray, List.getElem_cons_zero, List.getElem_cons_succ, List.setIfInBounds_toArray, List.set_cons_zero, List.set_cons_succ])
        refine wpAnyJ_take0 (i := 18) (v := undef) rfl (by kernel_rfl) (by kernel_rfl) (by kernel_rfl) (fun _ _ _ h => h) (Or.inr ⟨by rfl, rfl⟩) ?_
        (try simp only [Act.put, List.getElem_toArray, List.getElem_cons_zero, List.getElem_cons_succ, List.setIfInBounds_toArray, List.set_cons_zero, List.set_cons_succ])
        refine wpAnyJ_take0 (i := 19) (v := undef) rfl (by kernel_rfl) (by kernel_rfl) (by kernel_rfl) (fun _ _ _ h => h) (Or.inr ⟨by rfl, rfl⟩) ?_
        (try simp only [Act.put, List.getElem_toArray, List.getElem_cons_zero, List.getElem_cons_succ, List.setIfInBounds_toArray, List.set_cons_zero, List.set_cons_succ])
        refine wpAnyJ_take0 (i := 20) (v := undef) rfl (by kernel_rfl) (by kernel_rfl) (by kernel_rfl) (fun _ _ _ h => h) (Or.inr ⟨by rfl, rfl⟩) ?_
        (try simp only [Act.put, List.getElem_toArray, List.getElem_cons_zero, List.getElem_cons_succ, List.setIfInBounds_toArray, List.set_cons_zero, List.set_cons_succ])
        refine wpAnyJ_take0 (i := 21) (v := ?_) rfl (by kernel_rfl) (by kernel_rfl) (by kernel_rfl) (fun _ _ _ h => h) (Or.inl ⟨by rfl, ?_⟩) ?_
        rotate_left
        focus ((intro w hSw; clear hSw; go_simp); try with_reducible rfl)
        (try simp only [Act.put, List.getElem_toArray, List.getElem_cons_zero, List.getElem_cons_succ, List.setIfInBounds_toArray, List.set_cons_zero, List.set_cons_succ])
        refine wpAnyJ_done (by kernel_rfl) ?_ _
        refine NoPanic.normal ?_
        go_wp2_with fail
        go_ret
        exact ⟨by rw [HF.out]; rfl, hb.drew⟩
      | true =>
        rw [hok] at HN
        by_cases h0 : j = 0
        · have h0' : ¬ (0 : Int) < (j : Int) := by omega
          have h0n : ¬ 0 < j := by omega
          have HA : Hid (riseAt ks j = true) := Lib.hid (by subst h0; exact riseAt_zero hk hok)
          clear hok hk h0
          go_wp2_with fail
          refine wp_region_noPanic ?_
          refine wp_region_J (S := fun u : World => u.cell? ⟨b, off + j, none⟩ = some (.string k)) (fun _ => false) (by kernel_rfl) ?_
          have hHeld : (fun u : World => u.cell? ⟨b, off + j, none⟩ = some (.string k)) wr.drew := ck
          refine wpAnyJ_take0 (i := 0) (v := ?_) rfl (by kernel_rfl) (by kernel_rfl) (by kernel_rfl) (fun _ _ _ h => h) (Or.inl ⟨by rfl, ?_⟩) ?_
          rotate_left
          focus ((intro w hSw; clear hSw; go_simp); try with_reducible rfl)
          (try simp only [Act.put, List.getElem_toArray, List.getElem_cons_zero, List.getElem_cons_succ, List.setIfInBounds_toArray, List.set_cons_zero, List.set_cons_succ])
          refine wpAnyJ_take0 (i := 1) (v := ?_) rfl (by kernel_rfl) (by kernel_rfl) (by kernel_rfl) (fun _ _ _ h => h) (Or.inl ⟨by rfl, ?_⟩) ?_
          rotate_left
          focus ((intro w hSw; clear hSw; go_simp); try with_reducible rfl)
          (try simp only [Act.put, List.getElem_toArray, List.getElem_cons_zero, List.getElem_cons_succ, List.setIfInBounds_toArray, List.set_cons_zero, List.set_cons_succ])
          refine wpAnyJ_take0 (i := 2) (v := ?_) rfl (by kernel_rfl) (by kernel_rfl) (by kernel_rfl) (fun _ _ _ h => h) (Or.inl ⟨by rfl, ?_⟩) ?_
          rotate_left
          focus ((intro w hSw; clear hSw; go_simp); try with_reducible rfl)
          (try simp only [Act.put, List.getElem_toArray, List.getElem_cons_zero, List.getElem_cons_succ, List.setIfInBounds_toArray, List.set_cons_zero, List.set_cons_succ])
          refine wpAnyJ_take (i := 3) (v := ?_) rfl (by kernel_rfl) (by kernel_rfl) (by kernel_rfl) (by kernel_rfl) (fun _ _ _ h => h) (Or.inl ⟨by rfl, ?_⟩) (by assumption) ?_
          rotate_left
          focus ((intro w hSw; (try dsimp only at hSw); go_simp); try with_reducible rfl)
          (try simp only [Act.put, List.getElem_toArray, List.getElem_cons_zero, List.getElem_cons_succ, List.setIfInBounds_toArray, List.set_cons_zero, List.set_cons_succ])
          refine wpAnyJ_ready (rs := [4]) (by kernel_rfl) (by simp) ?_
          refine AllReadyJ.cons rfl (fun KK hKK => ?_) AllReadyJ.nil
          go_simp
          go_at_call 61
          refine (HN.out _).mono ?_
          rintro e u1 ⟨rfl, rfl⟩
          refine hKK.out _ _ (fun _ h => h) ?_
          clear hKK KK
          (try simp only [Act.put, List.getElem_toArray, List.getElem_cons_zero, List.getElem_cons_succ, List.setIfInBounds_toArray, List.set_cons_zero, List.set_cons_succ])
          refine wpAnyJ_take0 (i := 5) (v := ?_) rfl (by kernel_rfl) (by kernel_rfl) (by kernel_rfl) (fun _ _ _ h => h) (Or.inl ⟨by rfl, ?_⟩) ?_
          rotate_left
          focus ((intro w hSw; clear hSw; go_simp); try with_reducible rfl)
          (try simp only [Act.put, List.getElem_toArray, List.getElem_cons_zero, List.getElem_cons_succ, List.setIfInBounds_toArray, List.set_cons_zero, List.set_cons_succ])
          refine wpAnyJ_take0 (i := 6) (v := ?_) rfl (by kernel_rfl) (by kernel_rfl) (by kernel_rfl) (fun _ _ _ h => h) (Or.inl ⟨by rfl, ?_⟩) ?_
          rotate_left
          focus ((intro w hSw; clear hSw; go_simp); try with_reducible rfl)
          (try simp only [Act.put, List.getElem_toArray, List.getElem_cons_zero, List.getElem_cons_succ, List.setIfInBounds_toArray, List.set_cons_zero, List.set_cons_succ])
          refine wpAnyJ_take0 (i := 7) (v := ?_) rfl (by kernel_rfl) (by kernel_rfl) (by kernel_rfl) (fun _ _ _ h => h) (Or.inl ⟨by rfl, ?_⟩) ?_
          rotate_left
          focus ((intro w hSw; clear hSw; go_simp); try with_reducible rfl)
          (try simp only [Act.put, List.getElem_toArray, List.getElem_cons_zero, List.getElem_cons_succ, List.setIfInBounds_toArray, List.set_cons_zero, List.set_cons_succ])
          refine wpAnyJ_take0 (i := 8) (v := ?_) rfl (by kernel_rfl) (by kernel_rfl) (by kernel_rfl) (fun _ _ _ h => h) (Or.inl ⟨by rfl, ?_⟩) ?_
          rotate_left
          focus ((intro w hSw; clear hSw; go_simp); try with_reducible rfl)
          (try simp only [Act.put, List.getElem_toArray, List.getElem_cons_zero, List.getElem_cons_succ, List.setIfInBounds_toArray, List.set_cons_zero, List.set_cons_succ])
          refine wpAnyJ_take0 (i := 9) (v := ?_) rfl (by kernel_rfl) (by kernel_rfl) (by kernel_rfl) (fun _ _ _ h => h) (Or.inl ⟨by rfl, ?_⟩) ?_
          rotate_left
          focus ((intro w hSw; clear hSw; go_simp); try with_reducible rfl)
          (try simp only [Act.put, List.getElem_toArray, List.getElem_cons_zero, List.getElem_cons_succ, List.setIfInBounds_toArray, List.set_cons_zero, List.set_cons_succ])
          refine wpAnyJ_take0 (i := 10) (v := undef) rfl (by kernel_rfl) (by kernel_rfl) (by kernel_rfl) (fun _ _ _ h => h) (Or.inr ⟨by rfl, rfl⟩) ?_
          (try simp only [Act.put, List.getElem_toArray, List.getElem_cons_zero, List.getElem_cons_succ, List.setIfInBounds_toArray, List.set_cons_zero, List.set_cons_succ])
          refine wpAnyJ_take0 (i := 11) (v := undef) rfl (by kernel_rfl) (by kernel_rfl) (by kernel_rfl) (fun _ _ _ h => h) (Or.inr ⟨by rfl, rfl⟩) ?_
          (try simp only [Act.put, List.getElem_toArray, List.getElem_cons_zero, List.getElem_cons_succ, List.setIfInBounds_toArray, List.set_cons_zero, List.set_cons_succ])
          refine wpAnyJ_take0 (i := 12) (v := undef) rfl (by kernel_rfl) (by kernel_rfl) (by kernel_rfl) (fun _ _ _ h => h) (Or.inr ⟨by rfl, rfl⟩) ?_
          (try simp only [Act.put, List.getElem_toArray, List.getElem_cons_zero, List.getElem_cons_succ, List.setIfInBounds_toArray, List.set_cons_zero, List.set_cons_succ])
          refine wpAnyJ_take0 (i := 13) (v := undef) rfl (by kernel_rfl) (by kernel_rfl) (by kernel_rfl) (fun _ _ _ h => h) (Or.inr ⟨by rfl, rfl⟩) ?_
          (try simp only [Act.put, List.getElem_toArray, List.getElem_cons_zero, List.getElem_cons_succ, List.setIfInBounds_toArray, List.set_cons_zero, List.set_cons_succ])
          refine wpAnyJ_take0 (i := 14) (v := undef) rfl (by kernel_rfl) (by kernel_rfl) (by kernel_rfl) (fun _ _ _ h => h) (Or.inr ⟨by rfl, rfl⟩) ?_
          (try simp only [Act.put, List.getElem_toArray, List.getElem_cons_zero, List.getElem_cons_succ, List.setIfInBounds_toArray, List.set_cons_zero, List.set_cons_succ])
          refine wpAnyJ_take0 (i := 15) (v := undef) rfl (by kernel_rfl) (by kernel_rfl) (by kernel_rfl) (fun _ _ _ h => h) (Or.inr ⟨by rfl, rfl⟩) ?_
          (try simp only [Act.put, List.getElem_toArray, List.getElem_cons_zero, List.getElem_cons_succ, List.setIfInBounds_toArray, List.set_cons_zero, List.set_cons_succ])
          refine wpAnyJ_take0 (i := 16) (v := undef) rfl (by kernel_rfl) (by kernel_rfl) (by kernel_rfl) (fun _ _ _ h => h) (Or.inr ⟨by rfl, rfl⟩) ?_
          (try simp only [Act.put, List.getElem_toArray, List.getElem_cons_zero, List.getElem_cons_succ, List.setIfInBounds_toArray, List.set_cons_zero, List.set_cons_succ])
          refine wpAnyJ_take0 (i := 17) (v := undef) rfl (by kernel_rfl) (by kernel_rfl) (by kernel_rfl) (fun _ _ _ h => h) (Or.inr ⟨by rfl, rfl⟩) ?_
          (try simp only [Act.put, List.getElem_toArray, List.getElem_cons_zero, List.getElem_cons_succ, List.setIfInBounds_toArray, List.set_cons_zero, List.set_cons_succ])
          refine wpAnyJ_take0 (i := 18) (v := undef) rfl (by kernel_rfl) (by kernel_rfl) (by kernel_rfl) (fun _ _ _ h => h) (Or.inr ⟨by rfl, rfl⟩) ?_
          (try simp only [Act.put, List.getElem_toArray, List.getElem_cons_zero, List.getElem_cons_succ, List.setIfInBounds_toArray, List.set_cons_zero, List.set_cons_succ])
          refine wpAnyJ_take0 (i := 19) (v := undef) rfl (by kernel_rfl) (by kernel_rfl) (by kernel_rfl) (fun _ _ _ h => h) (Or.inr ⟨by rfl, rfl⟩) ?_
          (try simp only [Act.put, List.getElem_toArray, List.getElem_cons_zero, List.getElem_cons_succ, List.setIfInBounds_toArray, List.set_cons_zero, List.set_cons_succ])
          refine wpAnyJ_take0 (i := 20) (v := ?_) rfl (by kernel_rfl) (by kernel_rfl) (by kernel_rfl) (fun _ _ _ h => h) (Or.inl ⟨by rfl, ?_⟩) ?_
          rotate_left
          focus ((intro w hSw; clear hSw; go_simp); try with_reducible rfl)
          (try simp only [Act.put, List.getElem_toArray, List.getElem_cons_zero, List.getElem_cons_succ, List.setIfInBounds_toArray, List.set_cons_zero, List.set_cons_succ])
          refine wpAnyJ_take0 (i := 21) (v := ?_) rfl (by kernel_rfl) (by kernel_rfl) (by kernel_rfl) (fun _ _ _ h => h) (Or.inl ⟨by rfl, ?_⟩) ?_
          rotate_left
          focus ((intro w hSw; clear hSw; go_simp); try with_reducible rfl)
          (try simp only [Act.put, List.getElem_toArray, List.getElem_cons_zero, List.getElem_cons_succ, List.setIfInBounds_toArray, List.set_cons_zero, List.set_cons_succ])
          refine wpAnyJ_done (by kernel_rfl) ?_ _
          refine NoPanic.normal ?_
          go_wp2_with fail
          go_roundw
          case rel => exact ⟨j + 1, by go_num, by omega, fun i hi => (Nat.lt_or_ge i j).elim (fun h => HALL.out i h) (fun h => by rw [show i = j from by omega]; exact HA.out), hb.drew⟩
          case measure => simp [intOf]; omega
        · obtain ⟨m, hm⟩ : ∃ m, m + 1 = j := ⟨j - 1, by omega⟩
          have h0' : (0 : Int) < (j : Int) := by omega
          have h0n : 0 < j := by omega
          have hwj : IntKind.i64.wrap ((j : Int) - 1) = (m : Int) := by rw [IntWalk.i64_in _ (by omega)]; omega
          have hml : (m : Int) < ks.length := by omega
          have hm0 : (0 : Int) ≤ (m : Int) := by omega
          obtain ⟨p, hp⟩ := get_some (l := ks) (j := m) (by omega)
          obtain ⟨b', off', e1, _, cp⟩ := StrRow.get (HK.out.below hb hB) hp
          injection e1 with e1
          injection e1 with e1 e2
          subst e1 e2
          have hrs : riseAt ks j = ltS p k := by rw [← hm] at hk ⊢; exact riseAt_succ hk hp hok
          clear hok hk hp hm
          cases hls : ltS p k with
          | true =>
            have hls' : Op.bytesLess p.toList k.toList = true := hls
            have HA : Hid (riseAt ks j = true) := Lib.hid (hrs.trans hls)
            have hle1 : Op.bytesLess k.toList p.toList = false := by rcases bl_tri p.toList k.toList with ⟨_, h, _⟩ | ⟨_, h, _⟩ | ⟨_, h, _⟩ <;> first | exact h | (rw [h] at hls'; cases hls')
            have hle2 : (k.toList == p.toList) = false := by rcases bl_tri p.toList k.toList with ⟨_, _, h⟩ | ⟨_, h, _⟩ | ⟨_, h, _⟩ <;> first | (rw [h] at hls'; cases hls'; done) | (simpa using fun e => h e.symm)
            clear hrs hls
            go_wp2_with fail
            refine wp_region_noPanic ?_
            refine wp_region_J (S := fun u : World => u.cell? ⟨b, off + j, none⟩ = some (.string k) ∧ u.cell? ⟨b, off + m, none⟩ = some (.string p)) (fun _ => false) (by kernel_rfl) ?_
            have hHeld : (fun u : World => u.cell? ⟨b, off + j, none⟩ = some (.string k) ∧ u.cell? ⟨b, off + m, none⟩ = some (.string p)) wr.drew := ⟨ck, cp⟩
            refine wpAnyJ_take0 (i := 0) (v := ?_) rfl (by kernel_rfl) (by kernel_rfl) (by kernel_rfl) (fun _ _ _ h => h) (Or.inl ⟨by rfl, ?_⟩) ?_
            rotate_left
            focus ((intro w hSw; clear hSw; go_simp); try with_reducible rfl)
            (try simp only [Act.put, List.getElem_toArray, List.getElem_cons_zero, List.getElem_cons_succ, List.setIfInBounds_toArray, List.set_cons_zero, List.set_cons_succ])
            refine wpAnyJ_take0 (i := 1) (v := ?_) rfl (by kernel_rfl) (by kernel_rfl) (by kernel_rfl) (fun _ _ _ h => h) (Or.inl ⟨by rfl, ?_⟩) ?_
            rotate_left
            focus ((intro w hSw; clear hSw; go_simp); try with_reducible rfl)
            (try simp only [Act.put, List.getElem_toArray, List.getElem_cons_zero, List.getElem_cons_succ, List.setIfInBounds_toArray, List.set_cons_zero, List.set_cons_succ])
            refine wpAnyJ_take0 (i := 2) (v := ?_) rfl (by kernel_rfl) (by kernel_rfl) (by kernel_rfl) (fun _ _ _ h => h) (Or.inl ⟨by rfl, ?_⟩) ?_
            rotate_left
            focus ((intro w hSw; clear hSw; go_simp); try with_reducible rfl)
            (try simp only [Act.put, List.getElem_toArray, List.getElem_cons_zero, List.getElem_cons_succ, List.setIfInBounds_toArray, List.set_cons_zero, List.set_cons_succ])
            refine wpAnyJ_take (i := 3) (v := ?_) rfl (by kernel_rfl) (by kernel_rfl) (by kernel_rfl) (by kernel_rfl) (fun _ _ _ h => h) (Or.inl ⟨by rfl, ?_⟩) (by assumption) ?_
            rotate_left
            focus ((intro w hSw; (try dsimp only at hSw); go_simp); try with_reducible rfl)
            (try simp only [Act.put, List.getElem_toArray, List.getElem_cons_zero, List.getElem_cons_succ, List.setIfInBounds_toArray, List.set_cons_zero, List.set_cons_succ])
            refine wpAnyJ_ready (rs := [4]) (by kernel_rfl) (by simp) ?_
            refine AllReadyJ.cons rfl (fun KK hKK => ?_) AllReadyJ.nil
            go_simp
            go_at_call 61
            refine (HN.out _).mono ?_
            rintro e u1 ⟨rfl, rfl⟩
            refine hKK.out _ _ (fun _ h => h) ?_
            clear hKK KK
            (try simp only [Act.put, List.getElem_toArray, List.getElem_cons_zero, List.getElem_cons_succ, List.setIfInBounds_toArray, List.set_cons_zero, List.set_cons_succ])
            refine wpAnyJ_take0 (i := 5) (v := ?_) rfl (by kernel_rfl) (by kernel_rfl) (by kernel_rfl) (fun _ _ _ h => h) (Or.inl ⟨by rfl, ?_⟩) ?_
            rotate_left
            focus ((intro w hSw; clear hSw; go_simp); try with_reducible rfl)
            (try simp only [Act.put, List.getElem_toArray, List.getElem_cons_zero, List.getElem_cons_succ, List.setIfInBounds_toArray, List.set_cons_zero, List.set_cons_succ])
            refine wpAnyJ_take0 (i := 6) (v := ?_) rfl (by kernel_rfl) (by kernel_rfl) (by kernel_rfl) (fun _ _ _ h => h) (Or.inl ⟨by rfl, ?_⟩) ?_
            rotate_left
            focus ((intro w hSw; clear hSw; go_simp); try with_reducible rfl)
            (try simp only [Act.put, List.getElem_toArray, List.getElem_cons_zero, List.getElem_cons_succ, List.setIfInBounds_toArray, List.set_cons_zero, List.set_cons_succ])
            refine wpAnyJ_take0 (i := 7) (v := ?_) rfl (by kernel_rfl) (by kernel_rfl) (by kernel_rfl) (fun _ _ _ h => h) (Or.inl ⟨by rfl, ?_⟩) ?_
            rotate_left
            focus ((intro w hSw; clear hSw; go_simp); try with_reducible rfl)
            (try simp only [Act.put, List.getElem_toArray, List.getElem_cons_zero, List.getElem_cons_succ, List.setIfInBounds_toArray, List.set_cons_zero, List.set_cons_succ])
            refine wpAnyJ_take0 (i := 8) (v := ?_) rfl (by kernel_rfl) (by kernel_rfl) (by kernel_rfl) (fun _ _ _ h => h) (Or.inl ⟨by rfl, ?_⟩) ?_
            rotate_left
            focus ((intro w hSw; clear hSw; go_simp); try with_reducible rfl)
            (try simp only [Act.put, List.getElem_toArray, List.getElem_cons_zero, List.getElem_cons_succ, List.setIfInBounds_toArray, List.set_cons_zero, List.set_cons_succ])
            refine wpAnyJ_take0 (i := 9) (v := ?_) rfl (by kernel_rfl) (by kernel_rfl) (by kernel_rfl) (fun _ _ _ h => h) (Or.inl ⟨by rfl, ?_⟩) ?_
            rotate_left
            focus ((intro w hSw; clear hSw; go_simp); try with_reducible rfl)
            (try simp only [Act.put, List.getElem_toArray, List.getElem_cons_zero, List.getElem_cons_succ, List.setIfInBounds_toArray, List.set_cons_zero, List.set_cons_succ])
            refine wpAnyJ_take0 (i := 10) (v := ?_) rfl (by kernel_rfl) (by kernel_rfl) (by kernel_rfl) (fun _ _ _ h => h) (Or.inl ⟨by rfl, ?_⟩) ?_
            rotate_left
            focus ((intro w hSw; clear hSw; go_simp); try with_reducible rfl)
            (try simp only [Act.put, List.getElem_toArray, List.getElem_cons_zero, List.getElem_cons_succ, List.setIfInBounds_toArray, List.set_cons_zero, List.set_cons_succ])
            refine wpAnyJ_take0 (i := 11) (v := ?_) rfl (by kernel_rfl) (by kernel_rfl) (by kernel_rfl) (fun _ _ _ h => h) (Or.inl ⟨by rfl, ?_⟩) ?_
            rotate_left
            focus ((intro w hSw; clear hSw; go_simp); try with_reducible rfl)
            (try simp only [Act.put, List.getElem_toArray, List.getElem_cons_zero, List.getElem_cons_succ, List.setIfInBounds_toArray, List.set_cons_zero, List.set_cons_succ])
            refine wpAnyJ_take0 (i := 12) (v := ?_) rfl (by kernel_rfl) (by kernel_rfl) (by kernel_rfl) (fun _ _ _ h => h) (Or.inl ⟨by rfl, ?_⟩) ?_
            rotate_left
            focus ((intro w hSw; clear hSw; go_simp); try with_reducible rfl)
            (try simp only [Act.put, List.getElem_toArray, List.getElem_cons_zero, List.getElem_cons_succ, List.setIfInBounds_toArray, List.set_cons_zero, List.set_cons_succ])
            refine wpAnyJ_take (i := 13) (v := ?_) rfl (by kernel_rfl) (by kernel_rfl) (by kernel_rfl) (by kernel_rfl) (fun _ _ _ h => h) (Or.inl ⟨by rfl, ?_⟩) (by assumption) ?_
            rotate_left
            focus ((intro w hSw; (try dsimp only at hSw); go_simp); try with_reducible rfl)
            (try simp only [Act.put, List.getElem_toArray, List.getElem_cons_zero, List.getElem_cons_succ, List.setIfInBounds_toArray, List.set_cons_zero, List.set_cons_succ])
            refine wpAnyJ_take0 (i := 14) (v := ?_) rfl (by kernel_rfl) (by kernel_rfl) (by kernel_rfl) (fun _ _ _ h => h) (Or.inl ⟨by rfl, ?_⟩) ?_
            rotate_left
            focus ((intro w hSw; clear hSw; go_simp); try with_reducible rfl)
            (try simp only [Act.put, List.getElem_toArray, List.getElem_cons_zero, List.getElem_cons_succ, List.setIfInBounds_toArray, List.set_cons_zero, List.set_cons_succ])
            refine wpAnyJ_take0 (i := 15) (v := ?_) rfl (by kernel_rfl) (by kernel_rfl) (by kernel_rfl) (fun _ _ _ h => h) (Or.inl ⟨by rfl, ?_⟩) ?_
            rotate_left
            focus ((intro w hSw; clear hSw; go_simp); try with_reducible rfl)
            (try simp only [Act.put, List.getElem_toArray, List.getElem_cons_zero, List.getElem_cons_succ, List.setIfInBounds_toArray, List.set_cons_zero, List.set_cons_succ])
            refine wpAnyJ_take0 (i := 16) (v := ?_) rfl (by kernel_rfl) (by kernel_rfl) (by kernel_rfl) (fun _ _ _ h => h) (Or.inl ⟨by rfl, ?_⟩) ?_
            rotate_left
            focus ((intro w hSw; clear hSw; go_simp); try with_reducible rfl)
            (try simp only [Act.put, List.getElem_toArray, List.getElem_cons_zero, List.getElem_cons_succ, List.setIfInBounds_toArray, List.set_cons_zero, List.set_cons_succ])
            refine wpAnyJ_take0 (i := 17) (v := ?_) rfl (by kernel_rfl) (by kernel_rfl) (by kernel_rfl) (fun _ _ _ h => h) (Or.inl ⟨by rfl, ?_⟩) ?_
            rotate_left
            focus ((intro w hSw; clear hSw; go_simp); try with_reducible rfl)
            (try simp only [Act.put, List.getElem_toArray, List.getElem_cons_zero, List.getElem_cons_succ, List.setIfInBounds_toArray, List.set_cons_zero, List.set_cons_succ])
            refine wpAnyJ_take (i := 18) (v := ?_) rfl (by kernel_rfl) (by kernel_rfl) (by kernel_rfl) (by kernel_rfl) (fun _ _ _ h => h) (Or.inl ⟨by rfl, ?_⟩) (by assumption) ?_
            rotate_left
            focus ((intro w hSw; (try dsimp only at hSw); go_simp); try with_reducible rfl)
            (try simp only [Act.put, List.getElem_toArray, List.getElem_cons_zero, List.getElem_cons_succ, List.setIfInBounds_toArray, List.set_cons_zero, List.set_cons_succ])
            refine wpAnyJ_take0 (i := 19) (v := ?_) rfl (by kernel_rfl) (by kernel_rfl) (by kernel_rfl) (fun _ _ _ h => h) (Or.inl ⟨by rfl, ?_⟩) ?_
            rotate_left
            focus ((intro w hSw; clear hSw; go_simp); try with_reducible rfl)
            (try simp only [Act.put, List.getElem_toArray, List.getElem_cons_zero, List.getElem_cons_succ, List.setIfInBounds_toArray, List.set_cons_zero, List.set_cons_succ])
            refine wpAnyJ_take0 (i := 20) (v := ?_) rfl (by kernel_rfl) (by kernel_rfl) (by kernel_rfl) (fun _ _ _ h => h) (Or.inl ⟨by rfl, ?_⟩) ?_
            rotate_left
            focus ((intro w hSw; clear hSw; go_simp); try with_reducible rfl)
            (try simp only [Act.put, List.getElem_toArray, List.getElem_cons_zero, List.getElem_cons_succ, List.setIfInBounds_toArray, List.set_cons_zero, List.set_cons_succ])
            refine wpAnyJ_take0 (i := 21) (v := ?_) rfl (by kernel_rfl) (by kernel_rfl) (by kernel_rfl) (fun _ _ _ h => h) (Or.inl ⟨by rfl, ?_⟩) ?_
            rotate_left
            focus ((intro w hSw; clear hSw; go_simp); try with_reducible rfl)
            (try simp only [Act.put, List.getElem_toArray, List.getElem_cons_zero, List.getElem_cons_succ, List.setIfInBounds_toArray, List.set_cons_zero, List.set_cons_succ])
            refine wpAnyJ_done (by kernel_rfl) ?_ _
            refine NoPanic.normal ?_
            go_wp2_with fail
            go_roundw
            case rel => exact ⟨j + 1, by go_num, by omega, fun i hi => (Nat.lt_or_ge i j).elim (fun h => HALL.out i h) (fun h => by rw [show i = j from by omega]; exact HA.out), hb.drew⟩
            case measure => simp [intOf]; omega
          | false =>
            have hls' : Op.bytesLess p.toList k.toList = false := hls
            have HF : Hid (R = false) := Lib.hid (by rw [← HR.out]; exact allB_false hlt (hrs.trans hls))
            clear hrs hls
            rcases bl_tri p.toList k.toList with ⟨h9, _, _⟩ | ⟨h9, _, h8⟩ | ⟨h9, _, _⟩
            · rw [h9] at hls'; cases hls'
            · have hle2 : (k.toList == p.toList) = true := by rw [h9]; simp
              clear h9
              go_wp2_with fail
              refine wp_region_noPanic ?_
              refine wp_region_J (S := fun u : World => u.cell? ⟨b, off + j, none⟩ = some (.string k) ∧ u.cell? ⟨b, off + m, none⟩ = some (.string p)) (fun _ => false) (by kernel_rfl) ?_
              have hHeld : (fun u : World => u.cell? ⟨b, off + j, none⟩ = some (.string k) ∧ u.cell? ⟨b, off + m, none⟩ = some (.string p)) wr.drew := ⟨ck, cp⟩
              refine wpAnyJ_take0 (i := 0) (v := ?_) rfl (by kernel_rfl) (by kernel_rfl) (by kernel_rfl) (fun _ _ _ h => h) (Or.inl ⟨by rfl, ?_⟩) ?_
              rotate_left
              focus ((intro w hSw; clear hSw; go_simp); try with_reducible rfl)
              (try simp only [Act.put, List.getElem_toArray, List.getElem_cons_zero, List.getElem_cons_succ, List.setIfInBounds_toArray, List.set_cons_zero, List.set_cons_succ])
              refine wpAnyJ_take0 (i := 1) (v := ?_) rfl (by kernel_rfl) (by kernel_rfl) (by kernel_rfl) (fun _ _ _ h => h) (Or.inl ⟨by rfl, ?_⟩) ?_
              rotate_left
              focus ((intro w hSw; clear hSw; go_simp); try with_reducible rfl)
              (try simp only [Act.put, List.getElem_toArray, List.getElem_cons_zero, List.getElem_cons_succ, List.setIfInBounds_toArray, List.set_cons_zero, List.set_cons_succ])
              refine wpAnyJ_take0 (i := 2) (v := ?_) rfl (by kernel_rfl) (by kernel_rfl) (by kernel_rfl) (fun _ _ _ h => h) (Or.inl ⟨by rfl, ?_⟩) ?_
              rotate_left
              focus ((intro w hSw; clear hSw; go_simp); try with_reducible rfl)
              (try simp only [Act.put, List.getElem_toArray, List.getElem_cons_zero, List.getElem_cons_succ, List.setIfInBounds_toArray, List.set_cons_zero, List.set_cons_succ])
              refine wpAnyJ_take (i := 3) (v := ?_) rfl (by kernel_rfl) (by kernel_rfl) (by kernel_rfl) (by kernel_rfl) (fun _ _ _ h => h) (Or.inl ⟨by rfl, ?_⟩) (by assumption) ?_
              rotate_left
              focus ((intro w hSw; (try dsimp only at hSw); go_simp); try with_reducible rfl)
              (try simp only [Act.put, List.getElem_toArray, List.getElem_cons_zero, List.getElem_cons_succ, List.setIfInBounds_toArray, List.set_cons_zero, List.set_cons_succ])
              refine wpAnyJ_ready (rs := [4]) (by kernel_rfl) (by simp) ?_
              refine AllReadyJ.cons rfl (fun KK hKK => ?_) AllReadyJ.nil
              go_simp
              go_at_call 61
              refine (HN.out _).mono ?_
              rintro e u1 ⟨rfl, rfl⟩
              refine hKK.out _ _ (fun _ h => h) ?_
              clear hKK KK
              (try simp only [Act.put, List.getElem_toArray, List.getElem_cons_zero, List.getElem_cons_succ, List.setIfInBounds_toArray, List.set_cons_zero, List.set_cons_succ])
              refine wpAnyJ_take0 (i := 5) (v := ?_) rfl (by kernel_rfl) (by kernel_rfl) (by kernel_rfl) (fun _ _ _ h => h) (Or.inl ⟨by rfl, ?_⟩) ?_
              rotate_left
              focus ((intro w hSw; clear hSw; go_simp); try with_reducible rfl)
              (try simp only [Act.put, List.getElem_toArray, List.getElem_cons_zero, List.getElem_cons_succ, List.setIfInBounds_toArray, List.set_cons_zero, List.set_cons_succ])
              refine wpAnyJ_take0 (i := 6) (v := ?_) rfl (by kernel_rfl) (by kernel_rfl) (by kernel_rfl) (fun _ _ _ h => h) (Or.inl ⟨by rfl, ?_⟩) ?_
              rotate_left
              focus ((intro w hSw; clear hSw; go_simp); try with_reducible rfl)
              (try simp only [Act.put, List.getElem_toArray, List.getElem_cons_zero, List.getElem_cons_succ, List.setIfInBounds_toArray, List.set_cons_zero, List.set_cons_succ])
              refine wpAnyJ_take0 (i := 7) (v := ?_) rfl (by kernel_rfl) (by kernel_rfl) (by kernel_rfl) (fun _ _ _ h => h) (Or.inl ⟨by rfl, ?_⟩) ?_
              rotate_left
              focus ((intro w hSw; clear hSw; go_simp); try with_reducible rfl)
              (try simp only [Act.put, List.getElem_toArray, List.getElem_cons_zero, List.getElem_cons_succ, List.setIfInBounds_toArray, List.set_cons_zero, List.set_cons_succ])
              refine wpAnyJ_take0 (i := 8) (v := ?_) rfl (by kernel_rfl) (by kernel_rfl) (by kernel_rfl) (fun _ _ _ h => h) (Or.inl ⟨by rfl, ?_⟩) ?_
              rotate_left
              focus ((intro w hSw; clear hSw; go_simp); try with_reducible rfl)
              (try simp only [Act.put, List.getElem_toArray, List.getElem_cons_zero, List.getElem_cons_succ, List.setIfInBounds_toArray, List.set_cons_zero, List.set_cons_succ])
              refine wpAnyJ_take0 (i := 9) (v := ?_) rfl (by kernel_rfl) (by kernel_rfl) (by kernel_rfl) (fun _ _ _ h => h) (Or.inl ⟨by rfl, ?_⟩) ?_
              rotate_left
              focus ((intro w hSw; clear hSw; go_simp); try with_reducible rfl)
              (try simp only [Act.put, List.getElem_toArray, List.getElem_cons_zero, List.getElem_cons_succ, List.setIfInBounds_toArray, List.set_cons_zero, List.set_cons_succ])
              refine wpAnyJ_take0 (i := 10) (v := ?_) rfl (by kernel_rfl) (by kernel_rfl) (by kernel_rfl) (fun _ _ _ h => h) (Or.inl ⟨by rfl, ?_⟩) ?_
              rotate_left
              focus ((intro w hSw; clear hSw; go_simp); try with_reducible rfl)
              (try simp only [Act.put, List.getElem_toArray, List.getElem_cons_zero, List.getElem_cons_succ, List.setIfInBounds_toArray, List.set_cons_zero, List.set_cons_succ])
              refine wpAnyJ_take0 (i := 11) (v := ?_) rfl (by kernel_rfl) (by kernel_rfl) (by kernel_rfl) (fun _ _ _ h => h) (Or.inl ⟨by rfl, ?_⟩) ?_
              rotate_left
              focus ((intro w hSw; clear hSw; go_simp); try with_reducible rfl)
              (try simp only [Act.put, List.getElem_toArray, List.getElem_cons_zero, List.getElem_cons_succ, List.setIfInBounds_toArray, List.set_cons_zero, List.set_cons_succ])
              refine wpAnyJ_take0 (i := 12) (v := ?_) rfl (by kernel_rfl) (by kernel_rfl) (by kernel_rfl) (fun _ _ _ h => h) (Or.inl ⟨by rfl, ?_⟩) ?_
              rotate_left
              focus ((intro w hSw; clear hSw; go_simp); try with_reducible rfl)
              (try simp only [Act.put, List.getElem_toArray, List.getElem_cons_zero, List.getElem_cons_succ, List.setIfInBounds_toArray, List.set_cons_zero, List.set_cons_succ])
              refine wpAnyJ_take (i := 13) (v := ?_) rfl (by kernel_rfl) (by kernel_rfl) (by kernel_rfl) (by kernel_rfl) (fun _ _ _ h => h) (Or.inl ⟨by rfl, ?_⟩) (by assumption) ?_
              rotate_left
              focus ((intro w hSw; (try dsimp only at hSw); go_simp); try with_reducible rfl)
              (try simp only [Act.put, List.getElem_toArray, List.getElem_cons_zero, List.getElem_cons_succ, List.setIfInBounds_toArray, List.set_cons_zero, List.set_cons_succ])
              refine wpAnyJ_take0 (i := 14) (v := ?_) rfl (by kernel_rfl) (by kernel_rfl) (by kernel_rfl) (fun _ _ _ h => h) (Or.inl ⟨by rfl, ?_⟩) ?_
              rotate_left
              focus ((intro w hSw; clear hSw; go_simp); try with_reducible rfl)
              (try simp only [Act.put, List.getElem_toArray, List.getElem_cons_zero, List.getElem_cons_succ, List.setIfInBounds_toArray, List.set_cons_zero, List.set_cons_succ])
              refine wpAnyJ_take0 (i := 15) (v := ?_) rfl (by kernel_rfl) (by kernel_rfl) (by kernel_rfl) (fun _ _ _ h => h) (Or.inl ⟨by rfl, ?_⟩) ?_
              rotate_left
              focus ((intro w hSw; clear hSw; go_simp); try with_reducible rfl)
              (try simp only [Act.put, List.getElem_toArray, List.getElem_cons_zero, List.getElem_cons_succ, List.setIfInBounds_toArray, List.set_cons_zero, List.set_cons_succ])
              refine wpAnyJ_take0 (i := 16) (v := ?_) rfl (by kernel_rfl) (by kernel_rfl) (by kernel_rfl) (fun _ _ _ h => h) (Or.inl ⟨by rfl, ?_⟩) ?_
              rotate_left
              focus ((intro w hSw; clear hSw; go_simp); try with_reducible rfl)
              (try simp only [Act.put, List.getElem_toArray, List.getElem_cons_zero, List.getElem_cons_succ, List.setIfInBounds_toArray, List.set_cons_zero, List.set_cons_succ])
              refine wpAnyJ_take0 (i := 17) (v := ?_) rfl (by kernel_rfl) (by kernel_rfl) (by kernel_rfl) (fun _ _ _ h => h) (Or.inl ⟨by rfl, ?_⟩) ?_
              rotate_left
              focus ((intro w hSw; clear hSw; go_simp); try with_reducible rfl)
              (try simp only [Act.put, List.getElem_toArray, List.getElem_cons_zero, List.getElem_cons_succ, List.setIfInBounds_toArray, List.set_cons_zero, List.set_cons_succ])
              refine wpAnyJ_take (i := 18) (v := ?_) rfl (by kernel_rfl) (by kernel_rfl) (by kernel_rfl) (by kernel_rfl) (fun _ _ _ h => h) (Or.inl ⟨by rfl, ?_⟩) (by assumption) ?_
              rotate_left
              focus ((intro w hSw; (try dsimp only at hSw); go_simp); try with_reducible rfl)
              (try simp only [Act.put, List.getElem_toArray, List.getElem_cons_zero, List.getElem_cons_succ, List.setIfInBounds_toArray, List.set_cons_zero, List.set_cons_succ])
              refine wpAnyJ_take0 (i := 19) (v := ?_) rfl (by kernel_rfl) (by kernel_rfl) (by kernel_rfl) (fun _ _ _ h => h) (Or.inl ⟨by rfl, ?_⟩) ?_
              rotate_left
              focus ((intro w hSw; clear hSw; go_simp); try with_reducible rfl)
              (try simp only [Act.put, List.getElem_toArray, List.getElem_cons_zero, List.getElem_cons_succ, List.setIfInBounds_toArray, List.set_cons_zero, List.set_cons_succ])
              refine wpAnyJ_take0 (i := 20) (v := ?_) rfl (by kernel_rfl) (by kernel_rfl) (by kernel_rfl) (fun _ _ _ h => h) (Or.inl ⟨by rfl, ?_⟩) ?_
              rotate_left
              focus ((intro w hSw; clear hSw; go_simp); try with_reducible rfl)
              (try simp only [Act.put, List.getElem_toArray, List.getElem_cons_zero, List.getElem_cons_succ, List.setIfInBounds_toArray, List.set_cons_zero, List.set_cons_succ])
              refine wpAnyJ_take0 (i := 21) (v := ?_) rfl (by kernel_rfl) (by kernel_rfl) (by kernel_rfl) (fun _ _ _ h => h) (Or.inl ⟨by rfl, ?_⟩) ?_
              rotate_left
              focus ((intro w hSw; clear hSw; go_simp); try with_reducible rfl)
              (try simp only [Act.put, List.getElem_toArray, List.getElem_cons_zero, List.getElem_cons_succ, List.setIfInBounds_toArray, List.set_cons_zero, List.set_cons_succ])
              refine wpAnyJ_done (by kernel_rfl) ?_ _
              refine NoPanic.normal ?_
              go_wp2_with fail
              go_ret
              exact ⟨by rw [HF.out]; rfl, hb.drew⟩
            · have hle1 : Op.bytesLess k.toList p.toList = true := h9
              clear h9
              go_wp2_with fail
              refine wp_region_noPanic ?_
              refine wp_region_J (S := fun u : World => u.cell? ⟨b, off + j, none⟩ = some (.string k) ∧ u.cell? ⟨b, off + m, none⟩ = some (.string p)) (fun _ => false) (by kernel_rfl) ?_
              have hHeld : (fun u : World => u.cell? ⟨b, off + j, none⟩ = some (.string k) ∧ u.cell? ⟨b, off + m, none⟩ = some (.string p)) wr.drew := ⟨ck, cp⟩
              refine wpAnyJ_take0 (i := 0) (v := ?_) rfl (by kernel_rfl) (by kernel_rfl) (by kernel_rfl) (fun _ _ _ h => h) (Or.inl ⟨by rfl, ?_⟩) ?_
              rotate_left
              focus ((intro w hSw; clear hSw; go_simp); try with_reducible rfl)
              (try simp only [Act.put, List.getElem_toArray, List.getElem_cons_zero, List.getElem_cons_succ, List.setIfInBounds_toArray, List.set_cons_zero, List.set_cons_succ])
              refine wpAnyJ_take0 (i := 1) (v := ?_) rfl (by kernel_rfl) (by kernel_rfl) (by kernel_rfl) (fun _ _ _ h => h) (Or.inl ⟨by rfl, ?_⟩) ?_
              rotate_left
              focus ((intro w hSw; clear hSw; go_simp); try with_reducible rfl)
              (try simp only [Act.put, List.getElem_toArray, List.getElem_cons_zero, List.getElem_cons_succ, List.setIfInBounds_toArray, List.set_cons_zero, List.set_cons_succ])
              refine wpAnyJ_take0 (i := 2) (v := ?_) rfl (by kernel_rfl) (by kernel_rfl) (by kernel_rfl) (fun _ _ _ h => h) (Or.inl ⟨by rfl, ?_⟩) ?_
              rotate_left
              focus ((intro w hSw; clear hSw; go_simp); try with_reducible rfl)
              (try simp only [Act.put, List.getElem_toArray, List.getElem_cons_zero, List.getElem_cons_succ, List.setIfInBounds_toArray, List.set_cons_zero, List.set_cons_succ])
              refine wpAnyJ_take (i := 3) (v := ?_) rfl (by kernel_rfl) (by kernel_rfl) (by kernel_rfl) (by kernel_rfl) (fun _ _ _ h => h) (Or.inl ⟨by rfl, ?_⟩) (by assumption) ?_
              rotate_left
              focus ((intro w hSw; (try dsimp only at hSw); go_simp); try with_reducible rfl)
              (try simp only [Act.put, List.getElem_toArray, List.getElem_cons_zero, List.getElem_cons_succ, List.setIfInBounds_toArray, List.set_cons_zero, List.set_cons_succ])
              refine wpAnyJ_ready (rs := [4]) (by kernel_rfl) (by simp) ?_
              refine AllReadyJ.cons rfl (fun KK hKK => ?_) AllReadyJ.nil
              go_simp
              go_at_call 61
              refine (HN.out _).mono ?_
              rintro e u1 ⟨rfl, rfl⟩
              refine hKK.out _ _ (fun _ h => h) ?_
              clear hKK KK
              (try simp only [Act.put, List.getElem_toArray, List.getElem_cons_zero, List.getElem_cons_succ, List.setIfInBounds_toArray, List.set_cons_zero, List.set_cons_succ])
              refine wpAnyJ_take0 (i := 5) (v := ?_) rfl (by kernel_rfl) (by kernel_rfl) (by kernel_rfl) (fun _ _ _ h => h) (Or.inl ⟨by rfl, ?_⟩) ?_
              rotate_left
              focus ((intro w hSw; clear hSw; go_simp); try with_reducible rfl)
              (try simp only [Act.put, List.getElem_toArray, List.getElem_cons_zero, List.getElem_cons_succ, List.setIfInBounds_toArray, List.set_cons_zero, List.set_cons_succ])
              refine wpAnyJ_take0 (i := 6) (v := ?_) rfl (by kernel_rfl) (by kernel_rfl) (by kernel_rfl) (fun _ _ _ h => h) (Or.inl ⟨by rfl, ?_⟩) ?_
              rotate_left
              focus ((intro w hSw; clear hSw; go_simp); try with_reducible rfl)
              (try simp only [Act.put, List.getElem_toArray, List.getElem_cons_zero, List.getElem_cons_succ, List.setIfInBounds_toArray, List.set_cons_zero, List.set_cons_succ])
              refine wpAnyJ_take0 (i := 7) (v := ?_) rfl (by kernel_rfl) (by kernel_rfl) (by kernel_rfl) (fun _ _ _ h => h) (Or.inl ⟨by rfl, ?_⟩) ?_
              rotate_left
              focus ((intro w hSw; clear hSw; go_simp); try with_reducible rfl)
              (try simp only [Act.put, List.getElem_toArray, List.getElem_cons_zero, List.getElem_cons_succ, List.setIfInBounds_toArray, List.set_cons_zero, List.set_cons_succ])
              refine wpAnyJ_take0 (i := 8) (v := ?_) rfl (by kernel_rfl) (by kernel_rfl) (by kernel_rfl) (fun _ _ _ h => h) (Or.inl ⟨by rfl, ?_⟩) ?_
              rotate_left
              focus ((intro w hSw; clear hSw; go_simp); try with_reducible rfl)
              (try simp only [Act.put, List.getElem_toArray, List.getElem_cons_zero, List.getElem_cons_succ, List.setIfInBounds_toArray, List.set_cons_zero, List.set_cons_succ])
              refine wpAnyJ_take0 (i := 9) (v := ?_) rfl (by kernel_rfl) (by kernel_rfl) (by kernel_rfl) (fun _ _ _ h => h) (Or.inl ⟨by rfl, ?_⟩) ?_
              rotate_left
              focus ((intro w hSw; clear hSw; go_simp); try with_reducible rfl)
              (try simp only [Act.put, List.getElem_toArray, List.getElem_cons_zero, List.getElem_cons_succ, List.setIfInBounds_toArray, List.set_cons_zero, List.set_cons_succ])
              refine wpAnyJ_take0 (i := 10) (v := ?_) rfl (by kernel_rfl) (by kernel_rfl) (by kernel_rfl) (fun _ _ _ h => h) (Or.inl ⟨by rfl, ?_⟩) ?_
              rotate_left
              focus ((intro w hSw; clear hSw; go_simp); try with_reducible rfl)
              (try simp only [Act.put, List.getElem_toArray, List.getElem_cons_zero, List.getElem_cons_succ, List.setIfInBounds_toArray, List.set_cons_zero, List.set_cons_succ])
              refine wpAnyJ_take0 (i := 11) (v := ?_) rfl (by kernel_rfl) (by kernel_rfl) (by kernel_rfl) (fun _ _ _ h => h) (Or.inl ⟨by rfl, ?_⟩) ?_
              rotate_left
              focus ((intro w hSw; clear hSw; go_simp); try with_reducible rfl)
              (try simp only [Act.put, List.getElem_toArray, List.getElem_cons_zero, List.getElem_cons_succ, List.setIfInBounds_toArray, List.set_cons_zero, List.set_cons_succ])
              refine wpAnyJ_take0 (i := 12) (v := ?_) rfl (by kernel_rfl) (by kernel_rfl) (by kernel_rfl) (fun _ _ _ h => h) (Or.inl ⟨by rfl, ?_⟩) ?_
              rotate_left
              focus ((intro w hSw; clear hSw; go_simp); try with_reducible rfl)
              (try simp only [Act.put, List.getElem_toArray, List.getElem_cons_zero, List.getElem_cons_succ, List.setIfInBounds_toArray, List.set_cons_zero, List.set_cons_succ])
              refine wpAnyJ_take (i := 13) (v := ?_) rfl (by kernel_rfl) (by kernel_rfl) (by kernel_rfl) (by kernel_rfl) (fun _ _ _ h => h) (Or.inl ⟨by rfl, ?_⟩) (by assumption) ?_
              rotate_left
              focus ((intro w hSw; (try dsimp only at hSw); go_simp); try with_reducible rfl)
              (try simp only [Act.put, List.getElem_toArray, List.getElem_cons_zero, List.getElem_cons_succ, List.setIfInBounds_toArray, List.set_cons_zero, List.set_cons_succ])
              refine wpAnyJ_take0 (i := 14) (v := ?_) rfl (by kernel_rfl) (by kernel_rfl) (by kernel_rfl) (fun _ _ _ h => h) (Or.inl ⟨by rfl, ?_⟩) ?_
              rotate_left
              focus ((intro w hSw; clear hSw; go_simp); try with_reducible rfl)
              (try simp only [Act.put, List.getElem_toArray, List.getElem_cons_zero, List.getElem_cons_succ, List.setIfInBounds_toArray, List.set_cons_zero, List.set_cons_succ])
              refine wpAnyJ_take0 (i := 15) (v := ?_) rfl (by kernel_rfl) (by kernel_rfl) (by kernel_rfl) (fun _ _ _ h => h) (Or.inl ⟨by rfl, ?_⟩) ?_
              rotate_left
              focus ((intro w hSw; clear hSw; go_simp); try with_reducible rfl)
              (try simp only [Act.put, List.getElem_toArray, List.getElem_cons_zero, List.getElem_cons_succ, List.setIfInBounds_toArray, List.set_cons_zero, List.set_cons_succ])
              refine wpAnyJ_take0 (i := 16) (v := ?_) rfl (by kernel_rfl) (by kernel_rfl) (by kernel_rfl) (fun _ _ _ h => h) (Or.inl ⟨by rfl, ?_⟩) ?_
              rotate_left
              focus ((intro w hSw; clear hSw; go_simp); try with_reducible rfl)
              (try simp only [Act.put, List.getElem_toArray, List.getElem_cons_zero, List.getElem_cons_succ, List.setIfInBounds_toArray, List.set_cons_zero, List.set_cons_succ])
              refine wpAnyJ_take0 (i := 17) (v := ?_) rfl (by kernel_rfl) (by kernel_rfl) (by kernel_rfl) (fun _ _ _ h => h) (Or.inl ⟨by rfl, ?_⟩) ?_
              rotate_left
              focus ((intro w hSw; clear hSw; go_simp); try with_reducible rfl)
              (try simp only [Act.put, List.getElem_toArray, List.getElem_cons_zero, List.getElem_cons_succ, List.setIfInBounds_toArray, List.set_cons_zero, List.set_cons_succ])
              refine wpAnyJ_take (i := 18) (v := ?_) rfl (by kernel_rfl) (by kernel_rfl) (by kernel_rfl) (by kernel_rfl) (fun _ _ _ h => h) (Or.inl ⟨by rfl, ?_⟩) (by assumption) ?_
              rotate_left
              focus ((intro w hSw; (try dsimp only at hSw); go_simp); try with_reducible rfl)
              (try simp only [Act.put, List.getElem_toArray, List.getElem_cons_zero, List.getElem_cons_succ, List.setIfInBounds_toArray, List.set_cons_zero, List.set_cons_succ])
              refine wpAnyJ_take0 (i := 19) (v := ?_) rfl (by kernel_rfl) (by kernel_rfl) (by kernel_rfl) (fun _ _ _ h => h) (Or.inl ⟨by rfl, ?_⟩) ?_
              rotate_left
              focus ((intro w hSw; clear hSw; go_simp); try with_reducible rfl)
              (try simp only [Act.put, List.getElem_toArray, List.getElem_cons_zero, List.getElem_cons_succ, List.setIfInBounds_toArray, List.set_cons_zero, List.set_cons_succ])
              refine wpAnyJ_take0 (i := 20) (v := ?_) rfl (by kernel_rfl) (by kernel_rfl) (by kernel_rfl) (fun _ _ _ h => h) (Or.inl ⟨by rfl, ?_⟩) ?_
              rotate_left
              focus ((intro w hSw; clear hSw; go_simp); try with_reducible rfl)
              (try simp only [Act.put, List.getElem_toArray, List.getElem_cons_zero, List.getElem_cons_succ, List.setIfInBounds_toArray, List.set_cons_zero, List.set_cons_succ])
              refine wpAnyJ_take0 (i := 21) (v := ?_) rfl (by kernel_rfl) (by kernel_rfl) (by kernel_rfl) (fun _ _ _ h => h) (Or.inl ⟨by rfl, ?_⟩) ?_
              rotate_left
              focus ((intro w hSw; clear hSw; go_simp); try with_reducible rfl)
              (try simp only [Act.put, List.getElem_toArray, List.getElem_cons_zero, List.getElem_cons_succ, List.setIfInBounds_toArray, List.set_cons_zero, List.set_cons_succ])
              refine wpAnyJ_done (by kernel_rfl) ?_ _
              refine NoPanic.normal ?_
              go_wp2_with fail
              go_ret
              exact ⟨by rw [HF.out]; rfl, hb.drew⟩
    · have hlt' : ¬ (j : Int) < ks.length := by omega
      have HF : Hid (R = true) := Lib.hid (by rw [← HR.out]; exact allB_true (fun i hi => HALL.out i (by omega)))
      go_wp2_with fail
      go_ret
      exact ⟨by rw [HF.out]; rfl, hb⟩
end Go.Proofs.Ytoakloicjlfaaaa

/- Layer 14: whether a value may be a property's. Conditions: the value is there. -/
namespace Go.Proofs.Ytoakloicjlfaaaa
open Go.RowKit
set_option linter.unusedSimpArgs false
set_option linter.unusedVariables false

set_option maxRecDepth 100000 in
set_option maxHeartbeats 4000000 in
theorem property_any (t : Vt) (cs : List Value) (B : Nat) (w : World) (hV : IsV B w cs t) (hB : B ≤ w.heap.size) :
    Calls Try.prog 90 #[.agg cs.toArray] w fun e w' => e = .returned (.bool (propB t)) ∧ Below w.heap.size w w' := by
  have HC := Lib.hid (fun w' (hb : Below w.heap.size w w') => check_any t cs B w' (IsV.below hb hB t cs hV) (Nat.le_trans hB hb.size))
  have HP := Lib.hid (fun w' (hb : Below w.heap.size w w') => plain_any t cs B w' (IsV.below hb hB t cs hV) (Nat.le_trans hB hb.size))
  obtain ⟨k, b, i, s, l, ks⟩ := t
  unfold IsV at hV
  obtain ⟨la, lc, ka, kc, rfl, -, -, -, -, -, -, -, -⟩ := hV
  show Calls Try.prog 90 #[.agg #[.int .i64 k, .bool b, .int .i64 i, .string s, .slice la l.length lc, .slice ka ks.length kc]] w _
  have hPB : propB (.mk k b i s l ks) = (decide (k ≠ 0) && mayB (.mk k b i s l ks) && plainV (.mk k b i s l ks)) := rfl
  rw [hPB]
  clear hPB
  generalize mayB (.mk k b i s l ks) = m at *
  generalize plainV (.mk k b i s l ks) = q at *
  obtain ⟨w0, hw0⟩ : ∃ w0, w.alloc (.cells #[.int .i64 k, .bool b, .int .i64 i, .string s, .slice la l.length lc, .slice ka ks.length kc] 71) = w0 := ⟨_, rfl⟩
  have hb0 : Below w.heap.size w w0 := by rw [← hw0]; exact (Below.refl _ _).alloc (Nat.le_refl _) _
  have hX0 : Block w0 w.heap.size [.int .i64 k, .bool b, .int .i64 i, .string s, .slice la l.length lc, .slice ka ks.length kc] 71 := by rw [← hw0]; exact Block.new w _ _
  have HX := Lib.hid hX0
  have HB0 := Lib.hid hb0
  have HW0 := Lib.hid hw0
  clear hX0 hb0 hw0
  by_cases hk : k = 0
  · have hkd : decide (k ≠ 0) = false := decide_eq_false (by simp [hk])
    rw [hkd, Bool.false_and, Bool.false_and]
    clear hkd
    go_enter Try.func90, Try.ntmps90
    go_wp2_with fail
    go_ret
    exact ⟨rfl, by subst hk; rw [HW0.out]; exact HB0.out⟩
  · have hkd : decide (k ≠ 0) = true := decide_eq_true hk
    rw [hkd, Bool.true_and]
    clear hkd
    have hk9 : (k != 0) = true := by simp [hk]
    go_enter Try.func90, Try.ntmps90
    cases m with
    | false =>
      go_wp2_with (go_at_call 99; rw [HW0.out]; refine (HC.out _ HB0.out).mono ?_; clear HC; rintro e w1 ⟨rfl, hb1⟩; have HB1 := Lib.hid (below_step HB0.out rfl hb1); clear hb1)
      go_ret
      exact ⟨rfl, HB1.out⟩
    | true =>
      go_wp2_with (first
        | (go_at_call 99; rw [HW0.out]; refine (HC.out _ HB0.out).mono ?_; clear HC; rintro e w1 ⟨rfl, hb1⟩; have hX1 := HX.out.below hb1 HX.out.lt; have c0 := hX1.cell (i := 0) rfl; have c1 := hX1.cell (i := 1) rfl; have c2 := hX1.cell (i := 2) rfl; have c3 := hX1.cell (i := 3) rfl; have c4 := hX1.cell (i := 4) rfl; have c5 := hX1.cell (i := 5) rfl; have HB1 := Lib.hid (below_step HB0.out rfl hb1); clear hb1 hX1)
        | (go_at_call 100; refine (HP.out _ HB1.out).mono ?_; clear HP; rintro e w2 ⟨rfl, hb2⟩; have HB2 := Lib.hid (below_step HB1.out rfl hb2); clear hb2))
      go_ret
      exact ⟨by cases q <;> rfl, HB2.out⟩
set_option maxRecDepth 100000 in
set_option maxHeartbeats 4000000 in
theorem rproperty_any (t : Vt) (cs : List Value) (B : Nat) (w : World) (hV : IsV B w cs t) (hB : B ≤ w.heap.size) :
    Calls Try.prog 75 #[.agg cs.toArray] w fun e w' => e = .returned (.bool (propB t)) ∧ Below w.heap.size w w' := by
  have HC := Lib.hid (fun w' (hb : Below w.heap.size w w') => May_any t cs B w' (IsV.below hb hB t cs hV) (Nat.le_trans hB hb.size))
  have HP := Lib.hid (fun w' (hb : Below w.heap.size w w') (hm : mayB t = true) => rplain_any t cs B w' 32 0 (IsV.below hb hB t cs hV) (Nat.le_trans hB hb.size) hm)
  obtain ⟨k, b, i, s, l, ks⟩ := t
  unfold IsV at hV
  obtain ⟨la, lc, ka, kc, rfl, -, -, -, -, -, -, -, -⟩ := hV
  show Calls Try.prog 75 #[.agg #[.int .i64 k, .bool b, .int .i64 i, .string s, .slice la l.length lc, .slice ka ks.length kc]] w _
  have hPB : propB (.mk k b i s l ks) = (decide (k ≠ 0) && mayB (.mk k b i s l ks) && plainV (.mk k b i s l ks)) := rfl
  rw [hPB]
  clear hPB
  generalize mayB (.mk k b i s l ks) = m at *
  generalize plainV (.mk k b i s l ks) = q at *
  obtain ⟨w0, hw0⟩ : ∃ w0, w.alloc (.cells #[.int .i64 k, .bool b, .int .i64 i, .string s, .slice la l.length lc, .slice ka ks.length kc] 71) = w0 := ⟨_, rfl⟩
  have hb0 : Below w.heap.size w w0 := by rw [← hw0]; exact (Below.refl _ _).alloc (Nat.le_refl _) _
  have hX0 : Block w0 w.heap.size [.int .i64 k, .bool b, .int .i64 i, .string s, .slice la l.length lc, .slice ka ks.length kc] 71 := by rw [← hw0]; exact Block.new w _ _
  have HX := Lib.hid hX0
  have HB0 := Lib.hid hb0
  have HW0 := Lib.hid hw0
  clear hX0 hb0 hw0
  by_cases hk : k = 0
  · have hkd : decide (k ≠ 0) = false := decide_eq_false (by simp [hk])
    rw [hkd, Bool.false_and, Bool.false_and]
    clear hkd
    go_enter Try.func75, Try.ntmps75
    go_wp2_with fail
    go_ret
    exact ⟨rfl, by subst hk; rw [HW0.out]; exact HB0.out⟩
  · have hkd : decide (k ≠ 0) = true := decide_eq_true hk
    rw [hkd, Bool.true_and]
    clear hkd
    have hk9 : (k != 0) = true := by simp [hk]
    go_enter Try.func75, Try.ntmps75
    cases m with
    | false =>
      go_wp2_with (go_at_call 92; rw [HW0.out]; refine (HC.out _ HB0.out).mono ?_; clear HC; rintro e w1 ⟨rfl, hb1⟩; have HB1 := Lib.hid (below_step HB0.out rfl hb1); clear hb1)
      go_ret
      exact ⟨rfl, HB1.out⟩
    | true =>
      go_wp2_with (first
        | (go_at_call 92; rw [HW0.out]; refine (HC.out _ HB0.out).mono ?_; clear HC; rintro e w1 ⟨rfl, hb1⟩; have hX1 := HX.out.below hb1 HX.out.lt; have c0 := hX1.cell (i := 0) rfl; have c1 := hX1.cell (i := 1) rfl; have c2 := hX1.cell (i := 2) rfl; have c3 := hX1.cell (i := 3) rfl; have c4 := hX1.cell (i := 4) rfl; have c5 := hX1.cell (i := 5) rfl; have HB1 := Lib.hid (below_step HB0.out rfl hb1); clear hb1 hX1)
        | (go_at_call 93; refine (HP.out _ HB1.out (by first | rfl | trivial)).mono ?_; clear HP; rintro e w2 ⟨rfl, hb2⟩; have HB2 := Lib.hid (below_step HB1.out rfl hb2); clear hb2))
      go_ret
      exact ⟨by cases q <;> rfl, HB2.out⟩
end Go.Proofs.Ytoakloicjlfaaaa

/- Layer 14: whether properties may be. Conditions: the rows are there. -/
namespace Go.Proofs.Ytoakloicjlfaaaa
open Go.RowKit
set_option linter.unusedSimpArgs false
set_option linter.unusedVariables false
set_option maxRecDepth 100000

theorem props1_any (t : Vt) (cs : List Value) (B : Nat) (w : World) (hV : IsV B w cs t) (hB : B ≤ w.heap.size) :
    Calls Try.prog 89 #[.agg cs.toArray] w fun e w' => e = .returned (.bool !(propB t)) ∧ Below w.heap.size w w' := by
  have HM := Lib.hid (fun w' (hb : Below w.heap.size w w') => property_any t cs B w' (IsV.below hb hB t cs hV) (Nat.le_trans hB hb.size))
  obtain ⟨k, b, i, s, l, ks⟩ := t
  unfold IsV at hV
  obtain ⟨la, lc, ka, kc, rfl, -, -, -, -, -, -, -, -⟩ := hV
  show Calls Try.prog 89 #[.agg #[.int .i64 k, .bool b, .int .i64 i, .string s, .slice la l.length lc, .slice ka ks.length kc]] w _
  have HB0 := Lib.hid ((Below.refl w.heap.size w).alloc (Nat.le_refl _) (.cells #[.int .i64 k, .bool b, .int .i64 i, .string s, .slice la l.length lc, .slice ka ks.length kc] 71))
  obtain ⟨r, hr⟩ : ∃ r, propB (.mk k b i s l ks) = r := ⟨_, rfl⟩
  rw [hr] at HM ⊢
  clear hr
  go_enter Try.func89, Try.ntmps89
  go_wp2_with fail
  refine (HM.out _ HB0.out).mono ?_
  rintro e w1 ⟨rfl, hb1⟩
  go_wp2_with fail
  go_ret
  exact ⟨rfl, below_step HB0.out rfl hb1⟩
theorem propAt_get {l : List Vt} {j : Nat} {t : Vt} (h : l[j]? = some t) : propAt l j = propB t := by unfold propAt; rw [h]
def IdxQ (l : List Vt) (w : World) (e : Ending) (w' : World) : Prop := ∃ r : Int, e = .returned (.int .i64 r) ∧ decide (0 ≤ r) = !(allB l.length (propAt l)) ∧ Below w.heap.size w w'
set_option maxRecDepth 100000 in
set_option maxHeartbeats 4000000 in
theorem indexProp_any (l : List Vt) (la : Option Addr) (lc : Nat) (B : Nat) (w : World) (hL : IsVs B w la 0 l) (hB : B ≤ w.heap.size) (hlm : l.length ≤ 9223372036854775807) :
    Calls Try.prog 98 #[.slice la l.length lc, .func (.func 89) #[] #[]] w (IdxQ l w) := by
  have HLs := Lib.hid hL
  clear hL
  go_enter Try.func98, Try.ntmps98
  go_wp2_with fail
  go_loopw [8] (fun iv wr => ∃ (j : Nat), iv = .int .i64 j ∧ j ≤ l.length ∧ Hid (∀ i, i < j → propAt l i = true) ∧ Hid (Below w.heap.size w wr)) (fun iv _ => l.length - (intOf iv).toNat)
  case atStart => exact ⟨0, rfl, Nat.zero_le _, Lib.hid (fun i hi => by omega), Lib.hid (Below.refl _ _)⟩
  case round =>
    obtain ⟨j, rfl, hj, HN, HBR⟩ := hrel
    by_cases hlt : j < l.length
    · have hlt' : (j : Int) < l.length := by omega
      have hj0 : (0 : Int) ≤ (j : Int) := by omega
      obtain ⟨t, ht⟩ := get_some hlt
      have HPT := Lib.hid (propAt_get ht)
      obtain ⟨eb, eo, k2, b2, i2, s2, l2, ks2, la2, lc2, ka2, kc2, rfl, rfl, heb, ⟨g0, g1, g2, g3, g4, g5⟩, hVt⟩ := (HLs.out.below HBR.out hB).at ht
      have HI := Lib.hid (props1_any _ _ B wr hVt (Nat.le_trans hB HBR.out.size))
      clear hVt ht
      cases hpv : propB (.mk k2 b2 i2 s2 l2 ks2) with
      | true =>
        rw [hpv] at HI HPT
        clear hpv
        go_wp2_with fail
        refine HI.out.mono ?_
        rintro e w2 ⟨rfl, hb2⟩
        have HB2 := Lib.hid (below_step HBR.out rfl hb2)
        clear hb2 g0 g1 g2 g3 g4 g5
        go_wp2_with fail
        go_roundw
        case rel => exact ⟨j + 1, by go_num, by omega, Lib.hid (fun i hi => (Nat.lt_or_ge i j).elim (fun h => HN.out i h) (fun h => by rw [show i = j from by omega]; exact HPT.out)), HB2⟩
        case measure => simp [intOf]; omega
      | false =>
        rw [hpv] at HI HPT
        clear hpv
        go_wp2_with fail
        refine HI.out.mono ?_
        rintro e w2 ⟨rfl, hb2⟩
        have HB2 := Lib.hid (below_step HBR.out rfl hb2)
        clear hb2 g0 g1 g2 g3 g4 g5
        go_wp2_with fail
        go_ret
        exact ⟨j, rfl, by rw [allB_false hlt HPT.out]; simp, HB2.out⟩
    · have hlt' : ¬ (j : Int) < l.length := by omega
      have HF : Hid (allB l.length (propAt l) = true) := Lib.hid (allB_true (fun i hi => HN.out i (by omega)))
      go_wp2_with fail
      go_ret
      exact ⟨-1, rfl, by rw [HF.out]; decide, HBR.out⟩
theorem containsProp_any (l : List Vt) (la : Option Addr) (lc : Nat) (B : Nat) (w : World) (hL : IsVs B w la 0 l) (hB : B ≤ w.heap.size) (hlm : l.length ≤ 9223372036854775807) :
    Calls Try.prog 88 #[.slice la l.length lc, .func (.func 89) #[] #[]] w fun e w' => e = .returned (.bool !(allB l.length (propAt l))) ∧ Below w.heap.size w w' := by
  have HI := Lib.hid (indexProp_any l la lc B w hL hB hlm)
  clear hL
  obtain ⟨R, hR⟩ : ∃ R, allB l.length (propAt l) = R := ⟨_, rfl⟩
  unfold IdxQ at HI
  rw [hR] at HI ⊢
  clear hR
  go_enter Try.func88, Try.ntmps88
  go_wp2_with fail
  refine HI.out.mono ?_
  rintro e w1 ⟨r, rfl, hr, hb1⟩
  have HB1 := Lib.hid hb1
  have HRR := Lib.hid hr
  clear hb1 hr
  go_wp2_with fail
  go_ret
  exact ⟨by rw [← HRR.out]; rfl, HB1.out⟩
/-- props: the program's. -/
theorem props_any {B : Nat} {w : World} {ka va : Option Addr} {kc vc : Nat} {keys : List ByteArray} {vals : List Vt} (h : IsPr B w ka va kc vc keys vals) (hB : B ≤ w.heap.size) :
    Calls Try.prog 71 #[.slice ka keys.length kc, .slice va vals.length vc] w fun e w' => e = .returned (.bool (propsB keys vals)) ∧ Below w.heap.size w w' := by
  obtain ⟨h1, h2, h3, h4⟩ := h
  have HR := Lib.hid (rising_any keys ka kc B w h3 hB (by have := h1.1; omega))
  have HC := Lib.hid (containsProp_any vals va vc B w h4 hB (by have := h2.1; omega))
  unfold propsB
  clear h1 h2 h3 h4
  generalize risingB keys = r1 at *
  generalize keys.length = kn at *
  by_cases hl : kn = vals.length
  · subst hl
    rw [decide_eq_true rfl, Bool.true_and]
    generalize allB vals.length (propAt vals) = r2 at *
    cases r1 with
    | false =>
      go_enter Try.func71, Try.ntmps71
      go_wp2_with (go_at_call 70; refine HR.out.mono ?_; clear HR; rintro e w1 ⟨rfl, rfl⟩)
      go_ret
      exact ⟨rfl, Below.refl _ _⟩
    | true =>
      go_enter Try.func71, Try.ntmps71
      go_wp2_with (first
        | (go_at_call 70; refine HR.out.mono ?_; clear HR; rintro e w1 ⟨rfl, rfl⟩)
        | (go_at_call 88; refine HC.out.mono ?_; clear HC; rintro e w2 ⟨rfl, hb2⟩; have HB2 := Lib.hid hb2; clear hb2))
      go_ret
      exact ⟨by cases r2 <;> rfl, HB2.out⟩
  · have hl' : ¬ (kn : Int) = vals.length := by omega
    rw [decide_eq_false hl, Bool.false_and, Bool.false_and]
    go_enter Try.func71, Try.ntmps71
    go_wp2_with fail
    go_ret
    exact ⟨rfl, Below.refl _ _⟩
end Go.Proofs.Ytoakloicjlfaaaa

/- Layer 14: whether a node, an edge may be. Conditions: it is there. -/
namespace Go.Proofs.Ytoakloicjlfaaaa
open Go.RowKit
set_option linter.unusedSimpArgs false
set_option linter.unusedVariables false
set_option maxRecDepth 100000

theorem mayNode_any (n : Nt) (cs : List Value) (B : Nat) (w : World) (h : IsN B w cs n) (hB : B ≤ w.heap.size) :
    Calls Try.prog 47 #[.agg cs.toArray] w fun e w' => e = .returned (.bool (mayN n)) ∧ Below w.heap.size w w' := by
  obtain ⟨la, lc, ka, kc, va, vc, rfl, hid, hlo, hls, hpr⟩ := h
  have HR := Lib.hid (fun w' (hb : Below w.heap.size w w') => rising_any n.labels la lc B w' (hls.below hb hB) (Nat.le_trans hB hb.size) (by have := hlo.1; omega))
  have HP := Lib.hid (fun w' (hb : Below w.heap.size w w') => props_any (hpr.below hb hB) (Nat.le_trans hB hb.size))
  show Calls Try.prog 47 #[.agg #[.int .i64 n.id, .slice la n.labels.length lc, .slice ka n.keys.length kc, .slice va n.vals.length vc]] w _
  unfold mayN
  generalize risingB n.labels = r1 at *
  generalize propsB n.keys n.vals = r2 at *
  obtain ⟨w0, hw0⟩ : ∃ w0, w.alloc (.cells #[.int .i64 n.id, .slice la n.labels.length lc, .slice ka n.keys.length kc, .slice va n.vals.length vc] 38) = w0 := ⟨_, rfl⟩
  have hb0 : Below w.heap.size w w0 := by rw [← hw0]; exact (Below.refl _ _).alloc (Nat.le_refl _) _
  have HB0 := Lib.hid hb0
  have HW0 := Lib.hid hw0
  clear hb0 hw0 hls hpr hlo hid
  generalize n.id = i at *
  generalize n.labels.length = nl at *
  generalize n.keys.length = nk at *
  generalize n.vals.length = nv at *
  by_cases hi : 1 ≤ i
  · rw [decide_eq_true hi, Bool.true_and]
    cases r1 with
    | false =>
      go_enter Try.func47, Try.ntmps47
      go_wp2_with (go_at_call 70; rw [HW0.out]; refine (HR.out _ HB0.out).mono ?_; clear HR; rintro e w1 ⟨rfl, rfl⟩)
      go_ret
      exact ⟨rfl, HB0.out⟩
    | true =>
      go_enter Try.func47, Try.ntmps47
      have HX : Hid (∀ w1, w0 = w1 → w1 = w.alloc (.cells #[.int .i64 i, .slice la nl lc, .slice ka nk kc, .slice va nv vc] 38)) := Lib.hid (by rintro w1 rfl; exact HW0.out.symm)
      go_wp2_with (first
        | (go_at_call 70; rw [HW0.out]; refine (HR.out _ HB0.out).mono ?_; clear HR; rintro e w1 ⟨rfl, hw1⟩; rw [HX.out _ hw1])
        | (go_at_call 71; rw [HW0.out]; refine (HP.out _ HB0.out).mono ?_; clear HP; rintro e w2 ⟨rfl, hb2⟩; have HB2 := Lib.hid (below_step HB0.out rfl hb2); clear hb2))
      go_ret
      exact ⟨by cases r2 <;> rfl, HB2.out⟩
  · rw [decide_eq_false hi, Bool.false_and, Bool.false_and]
    go_enter Try.func47, Try.ntmps47
    go_wp2_with fail
    go_ret
    exact ⟨rfl, by rw [HW0.out]; exact HB0.out⟩
theorem mayEdge_any (n : Et) (cs : List Value) (B : Nat) (w : World) (h : IsE B w cs n) (hB : B ≤ w.heap.size) :
    Calls Try.prog 53 #[.agg cs.toArray] w fun e w' => e = .returned (.bool (mayE n)) ∧ Below w.heap.size w w' := by
  obtain ⟨ka, kc, va, vc, rfl, hid, hpr⟩ := h
  have HR := Lib.hid (fun w' => name_any n.ty w')
  have HP := Lib.hid (fun w' (hb : Below w.heap.size w w') => props_any (hpr.below hb hB) (Nat.le_trans hB hb.size))
  show Calls Try.prog 53 #[.agg #[.int .i64 n.id, .int .i64 n.src, .int .i64 n.dst, .string n.ty, .slice ka n.keys.length kc, .slice va n.vals.length vc]] w _
  unfold mayE
  generalize okName n.ty = r1 at *
  generalize propsB n.keys n.vals = r2 at *
  obtain ⟨w0, hw0⟩ : ∃ w0, w.alloc (.cells #[.int .i64 n.id, .int .i64 n.src, .int .i64 n.dst, .string n.ty, .slice ka n.keys.length kc, .slice va n.vals.length vc] 40) = w0 := ⟨_, rfl⟩
  have hb0 : Below w.heap.size w w0 := by rw [← hw0]; exact (Below.refl _ _).alloc (Nat.le_refl _) _
  have HB0 := Lib.hid hb0
  have HW0 := Lib.hid hw0
  clear hb0 hw0 hpr hid
  generalize n.id = i at *
  generalize n.src = i2 at *
  generalize n.dst = i3 at *
  generalize n.ty = ty at *
  generalize n.keys.length = nk at *
  generalize n.vals.length = nv at *
  by_cases hi : 1 ≤ i
  · rw [decide_eq_true hi, Bool.true_and]
    cases r1 with
    | false =>
      go_enter Try.func53, Try.ntmps53
      go_wp2_with (go_at_call 76; rw [HW0.out]; refine (HR.out _).mono ?_; clear HR; rintro e w1 ⟨rfl, rfl⟩)
      go_ret
      exact ⟨rfl, HB0.out⟩
    | true =>
      go_enter Try.func53, Try.ntmps53
      have HX : Hid (∀ w1, w0 = w1 → w1 = w.alloc (.cells #[.int .i64 i, .int .i64 i2, .int .i64 i3, .string ty, .slice ka nk kc, .slice va nv vc] 40)) := Lib.hid (by rintro w1 rfl; exact HW0.out.symm)
      go_wp2_with (first
        | (go_at_call 76; rw [HW0.out]; refine (HR.out _).mono ?_; clear HR; rintro e w1 ⟨rfl, hw1⟩; rw [HX.out _ hw1])
        | (go_at_call 71; rw [HW0.out]; refine (HP.out _ HB0.out).mono ?_; clear HP; rintro e w2 ⟨rfl, hb2⟩; have HB2 := Lib.hid (below_step HB0.out rfl hb2); clear hb2))
      go_ret
      exact ⟨by cases r2 <;> rfl, HB2.out⟩
  · rw [decide_eq_false hi, Bool.false_and, Bool.false_and]
    go_enter Try.func53, Try.ntmps53
    go_wp2_with fail
    go_ret
    exact ⟨rfl, by rw [HW0.out]; exact HB0.out⟩
end Go.Proofs.Ytoakloicjlfaaaa

/- Layer 14: the reference's props, MayNode, MayEdge. Conditions: the rows are there. -/
namespace Go.Proofs.Ytoakloicjlfaaaa
open Go.RowKit
set_option linter.unusedSimpArgs false
set_option linter.unusedVariables false
set_option maxRecDepth 100000

set_option maxHeartbeats 4000000 in
theorem rprops_any {B : Nat} {w : World} {ka va : Option Addr} {kc vc : Nat} {keys : List ByteArray} {vals : List Vt} (h : IsPr B w ka va kc vc keys vals) (hB : B ≤ w.heap.size) :
    Calls Try.prog 52 #[.slice ka keys.length kc, .slice va vals.length vc] w fun e w' => e = .returned (.bool (propsB keys vals)) ∧ Below w.heap.size w w' := by
  obtain ⟨h1, h2, h3, h4⟩ := h
  have HR := Lib.hid (fun w' (hb : Below w.heap.size w w') => rrising_any keys ka kc B w' (h3.below hb hB) (Nat.le_trans hB hb.size) (by have := h1.1; omega))
  have HLs := Lib.hid h4
  have hvl : vals.length ≤ 9223372036854775807 := by have := h2.1; omega
  unfold propsB
  clear h1 h2 h3 h4
  generalize risingB keys = r1 at *
  generalize keys.length = kn at *
  obtain ⟨R, hR⟩ : ∃ R, (decide (kn = vals.length) && r1 && allB vals.length (propAt vals)) = R := ⟨_, rfl⟩
  have HRR := Lib.hid hR
  rw [hR]
  clear hR
  go_enter Try.func52, Try.ntmps52
  go_wp2_with fail
  go_loopw [5] (fun iv wr => ∃ (j : Nat), iv = .int .i64 j ∧ j ≤ vals.length ∧ Hid (∀ i, i < j → propAt vals i = true) ∧ Hid (Below w.heap.size w wr)) (fun iv _ => vals.length - (intOf iv).toNat)
  case atStart => exact ⟨0, rfl, Nat.zero_le _, Lib.hid (fun i hi => by omega), Lib.hid (Below.refl _ _)⟩
  case round =>
    obtain ⟨j, rfl, hj, HN, HBR⟩ := hrel
    by_cases hlt : j < vals.length
    · have hlt' : (j : Int) < vals.length := by omega
      have hj0 : (0 : Int) ≤ (j : Int) := by omega
      have hwi : IntKind.i64.wrap ((j : Int) + 1) = (j : Int) + 1 := IntWalk.i64_in _ (by omega)
      obtain ⟨t, ht⟩ := get_some hlt
      have HPT := Lib.hid (propAt_get ht)
      obtain ⟨eb, eo, k2, b2, i2, s2, l2, ks2, la2, lc2, ka2, kc2, rfl, rfl, heb, ⟨g0, g1, g2, g3, g4, g5⟩, hVt⟩ := (HLs.out.below HBR.out hB).at ht
      have HI := Lib.hid (rproperty_any _ _ B wr hVt (Nat.le_trans hB HBR.out.size))
      clear hVt ht
      cases hpv : propB (.mk k2 b2 i2 s2 l2 ks2) with
      | true =>
        rw [hpv] at HI HPT
        clear hpv
        go_wp2_with (go_at_call 75; refine HI.out.mono ?_; clear HI; rintro e w2 ⟨rfl, hb2⟩; have HB2 := Lib.hid (below_step HBR.out rfl hb2); clear hb2)
        go_roundw
        case rel => exact ⟨j + 1, by go_num, by omega, Lib.hid (fun i hi => (Nat.lt_or_ge i j).elim (fun h => HN.out i h) (fun h => by rw [show i = j from by omega]; exact HPT.out)), HB2⟩
        case measure => simp [intOf]; omega
      | false =>
        rw [hpv] at HI HPT
        clear hpv
        have HF : Hid (R = false) := Lib.hid (by rw [← HRR.out, allB_false hlt HPT.out, Bool.and_false])
        go_wp2_with (go_at_call 75; refine HI.out.mono ?_; clear HI; rintro e w2 ⟨rfl, hb2⟩; have HB2 := Lib.hid (below_step HBR.out rfl hb2); clear hb2)
        go_ret
        exact ⟨by rw [HF.out]; rfl, HB2.out⟩
    · have hlt' : ¬ (j : Int) < vals.length := by omega
      have HF : Hid (R = (decide (kn = vals.length) && r1)) := Lib.hid (by rw [← HRR.out, allB_true (fun i hi => HN.out i (by omega)), Bool.and_true])
      by_cases hl : kn = vals.length
      · have hl' : (kn : Int) = vals.length := by omega
        have HF2 : Hid (R = r1) := Lib.hid (by rw [HF.out, decide_eq_true hl, Bool.true_and])
        subst hl
        go_wp2_with (go_at_call 51; refine (HR.out _ HBR.out).mono ?_; clear HR; rintro e w2 ⟨rfl, hb2⟩; have HB2 := Lib.hid (below_step HBR.out rfl hb2); clear hb2)
        go_ret
        exact ⟨by rw [HF2.out]; cases r1 <;> rfl, HB2.out⟩
      · have hl' : ¬ (kn : Int) = vals.length := by omega
        have HF2 : Hid (R = false) := Lib.hid (by rw [HF.out, decide_eq_false hl, Bool.false_and])
        go_wp2_with fail
        go_ret
        exact ⟨by rw [HF2.out]; rfl, HBR.out⟩
theorem rMayNode_any (n : Nt) (cs : List Value) (B : Nat) (w : World) (h : IsN B w cs n) (hB : B ≤ w.heap.size) :
    Calls Try.prog 19 #[.agg cs.toArray] w fun e w' => e = .returned (.bool (mayN n)) ∧ Below w.heap.size w w' := by
  obtain ⟨la, lc, ka, kc, va, vc, rfl, hid, hlo, hls, hpr⟩ := h
  have HR := Lib.hid (fun w' (hb : Below w.heap.size w w') => rrising_any n.labels la lc B w' (hls.below hb hB) (Nat.le_trans hB hb.size) (by have := hlo.1; omega))
  have HP := Lib.hid (fun w' (hb : Below w.heap.size w w') => rprops_any (hpr.below hb hB) (Nat.le_trans hB hb.size))
  show Calls Try.prog 19 #[.agg #[.int .i64 n.id, .slice la n.labels.length lc, .slice ka n.keys.length kc, .slice va n.vals.length vc]] w _
  unfold mayN
  generalize risingB n.labels = r1 at *
  generalize propsB n.keys n.vals = r2 at *
  obtain ⟨w0, hw0⟩ : ∃ w0, w.alloc (.cells #[.int .i64 n.id, .slice la n.labels.length lc, .slice ka n.keys.length kc, .slice va n.vals.length vc] 38) = w0 := ⟨_, rfl⟩
  have hb0 : Below w.heap.size w w0 := by rw [← hw0]; exact (Below.refl _ _).alloc (Nat.le_refl _) _
  have HXB : Hid (Block w0 w.heap.size [.int .i64 n.id, .slice la n.labels.length lc, .slice ka n.keys.length kc, .slice va n.vals.length vc] 38) := Lib.hid (by rw [← hw0]; exact Block.new w _ _)
  have HB0 := Lib.hid hb0
  have HW0 := Lib.hid hw0
  clear hb0 hw0 hls hpr hlo hid
  generalize n.id = i at *
  generalize n.labels.length = nl at *
  generalize n.keys.length = nk at *
  generalize n.vals.length = nv at *
  by_cases hi : 1 ≤ i
  · rw [decide_eq_true hi, Bool.true_and]
    cases r1 with
    | false =>
      go_enter Try.func19, Try.ntmps19
      go_wp2_with (go_at_call 51; rw [HW0.out]; refine (HR.out _ HB0.out).mono ?_; clear HR; rintro e w1 ⟨rfl, hb1⟩; have HB1 := Lib.hid (below_step HB0.out rfl hb1); clear hb1)
      go_ret
      exact ⟨rfl, HB1.out⟩
    | true =>
      go_enter Try.func19, Try.ntmps19
      go_wp2_with (first
        | (go_at_call 51; rw [HW0.out]; refine (HR.out _ HB0.out).mono ?_; clear HR; rintro e w1 ⟨rfl, hb1⟩; have hX1 := HXB.out.below hb1 HXB.out.lt; have c0 := hX1.cell (i := 0) rfl; have c1 := hX1.cell (i := 1) rfl; have c2 := hX1.cell (i := 2) rfl; have c3 := hX1.cell (i := 3) rfl; have HB1 := Lib.hid (below_step HB0.out rfl hb1); clear hb1 hX1)
        | (go_at_call 52; refine (HP.out _ HB1.out).mono ?_; clear HP; rintro e w2 ⟨rfl, hb2⟩; have HB2 := Lib.hid (below_step HB1.out rfl hb2); clear hb2))
      go_ret
      exact ⟨by cases r2 <;> rfl, HB2.out⟩
  · rw [decide_eq_false hi, Bool.false_and, Bool.false_and]
    go_enter Try.func19, Try.ntmps19
    go_wp2_with fail
    go_ret
    exact ⟨rfl, by rw [HW0.out]; exact HB0.out⟩
theorem rMayEdge_any (n : Et) (cs : List Value) (B : Nat) (w : World) (h : IsE B w cs n) (hB : B ≤ w.heap.size) :
    Calls Try.prog 31 #[.agg cs.toArray] w fun e w' => e = .returned (.bool (mayE n)) ∧ Below w.heap.size w w' := by
  obtain ⟨ka, kc, va, vc, rfl, hid, hpr⟩ := h
  have HR := Lib.hid (fun w' => rkey11_any n.ty w')
  have HP := Lib.hid (fun w' (hb : Below w.heap.size w w') => rprops_any (hpr.below hb hB) (Nat.le_trans hB hb.size))
  show Calls Try.prog 31 #[.agg #[.int .i64 n.id, .int .i64 n.src, .int .i64 n.dst, .string n.ty, .slice ka n.keys.length kc, .slice va n.vals.length vc]] w _
  unfold mayE
  generalize okName n.ty = r1 at *
  generalize propsB n.keys n.vals = r2 at *
  obtain ⟨w0, hw0⟩ : ∃ w0, w.alloc (.cells #[.int .i64 n.id, .int .i64 n.src, .int .i64 n.dst, .string n.ty, .slice ka n.keys.length kc, .slice va n.vals.length vc] 40) = w0 := ⟨_, rfl⟩
  have hb0 : Below w.heap.size w w0 := by rw [← hw0]; exact (Below.refl _ _).alloc (Nat.le_refl _) _
  have HB0 := Lib.hid hb0
  have HW0 := Lib.hid hw0
  clear hb0 hw0 hpr hid
  generalize n.id = i at *
  generalize n.src = i2 at *
  generalize n.dst = i3 at *
  generalize n.ty = ty at *
  generalize n.keys.length = nk at *
  generalize n.vals.length = nv at *
  by_cases hi : 1 ≤ i
  · rw [decide_eq_true hi, Bool.true_and]
    cases r1 with
    | false =>
      go_enter Try.func31, Try.ntmps31
      go_wp2_with (go_at_call 61; rw [HW0.out]; refine (HR.out _).mono ?_; clear HR; rintro e w1 ⟨rfl, rfl⟩)
      go_ret
      exact ⟨rfl, HB0.out⟩
    | true =>
      go_enter Try.func31, Try.ntmps31
      have HX : Hid (∀ w1, w0 = w1 → w1 = w.alloc (.cells #[.int .i64 i, .int .i64 i2, .int .i64 i3, .string ty, .slice ka nk kc, .slice va nv vc] 40)) := Lib.hid (by rintro w1 rfl; exact HW0.out.symm)
      go_wp2_with (first
        | (go_at_call 61; rw [HW0.out]; refine (HR.out _).mono ?_; clear HR; rintro e w1 ⟨rfl, hw1⟩; rw [HX.out _ hw1])
        | (go_at_call 52; rw [HW0.out]; refine (HP.out _ HB0.out).mono ?_; clear HP; rintro e w2 ⟨rfl, hb2⟩; have HB2 := Lib.hid (below_step HB0.out rfl hb2); clear hb2))
      go_ret
      exact ⟨by cases r2 <;> rfl, HB2.out⟩
  · rw [decide_eq_false hi, Bool.false_and, Bool.false_and]
    go_enter Try.func31, Try.ntmps31
    go_wp2_with fail
    go_ret
    exact ⟨rfl, by rw [HW0.out]; exact HB0.out⟩
end Go.Proofs.Ytoakloicjlfaaaa

/- Layer 14: the reference's NodeAt, EdgeAt: the place of a number. Conditions: the graph is there. -/
namespace Go.Proofs.Ytoakloicjlfaaaa
open Go.RowKit
set_option linter.unusedSimpArgs false
set_option linter.unusedVariables false
set_option maxRecDepth 100000

/-- The place of a number; -1: none. -/
def idxOf (ids : List Int) (id : Int) : Int := match ids.findIdx? (fun x => decide (x = id)) with | some i => (i : Int) | none => -1
theorem idxOf_some {ids : List Int} {id : Int} {j : Nat} (hj : ids[j]? = some id) (h : ∀ i x, i < j → ids[i]? = some x → x ≠ id) : idxOf ids id = j := by
  unfold idxOf
  have hlt : j < ids.length := (List.getElem?_eq_some_iff.1 hj).1
  have : ids.findIdx? (fun x => decide (x = id)) = some j := by
    rw [List.findIdx?_eq_some_iff_getElem]
    refine ⟨hlt, by have := (List.getElem?_eq_some_iff.1 hj).2; simp [this], fun i hi => ?_⟩
    have := h i _ hi (List.getElem?_eq_getElem (by omega))
    simpa using this
  rw [this]
theorem idxOf_none {ids : List Int} {id : Int} (h : ∀ (i : Nat) x, ids[i]? = some x → x ≠ id) : idxOf ids id = -1 := by
  unfold idxOf
  have : ids.findIdx? (fun x => decide (x = id)) = none := by
    rw [List.findIdx?_eq_none_iff]
    intro x hx
    obtain ⟨i, hi⟩ := List.mem_iff_getElem?.1 hx
    simpa using h i x hi
  rw [this]
theorem RowR.at {α : Type} {R : List Value → α → Prop} {size B : Nat} {w : World} {a : Option Addr} {l : List α} (h : RowR R size B w a l) {j : Nat} {x : α} (hx : l[j]? = some x) :
    ∃ b off cs, a = some ⟨b, off, none⟩ ∧ b < B ∧ cs.length = size ∧ R cs x ∧ ∀ q v, cs[q]? = some v → w.cell? ⟨b, off + j * size + q, none⟩ = some v := by
  obtain ⟨b, off, cs, h1, h2, h3, h4, h5⟩ := h j x hx
  exact ⟨b, off, cs, h1, h2, h3, h5, fun q v hv => by rw [Nat.add_assoc]; exact h4 q v hv⟩
set_option maxHeartbeats 4000000 in
theorem nodeAt_any (g : Gt) (id : Int) (cs : List Value) (B : Nat) (w : World) (h : IsG B w cs g) (hB : B ≤ w.heap.size) :
    Calls Try.prog 16 #[.agg cs.toArray, .int .i64 id] w fun e w' => e = .returned (.int .i64 (idxOf (g.nodes.map (·.id)) id)) ∧ Below w.heap.size w w' := by
  obtain ⟨na, nc, ea, ec, rfl, hn, he, hN, hE⟩ := h
  show Calls Try.prog 16 #[.agg #[.slice na g.nodes.length nc, .slice ea g.edges.length ec], .int .i64 id] w _
  have hll : g.nodes.length ≤ 9223372036854775807 := by have := hn.1; omega
  have HLs := Lib.hid hN
  obtain ⟨R, hR⟩ : ∃ R, idxOf (g.nodes.map (·.id)) id = R := ⟨_, rfl⟩
  have HR := Lib.hid hR
  rw [hR]
  obtain ⟨w0, hw0⟩ : ∃ w0, w.alloc (.cells #[.slice na g.nodes.length nc, .slice ea g.edges.length ec] 25) = w0 := ⟨_, rfl⟩
  have HX : Hid (Block w0 w.heap.size [.slice na g.nodes.length nc, .slice ea g.edges.length ec] 25) := Lib.hid (by rw [← hw0]; exact Block.new w _ _)
  have hb0 : Below w.heap.size w w0 := by rw [← hw0]; exact (Below.refl _ _).alloc (Nat.le_refl _) _
  have HW0 := Lib.hid hw0
  clear hR hw0 hn he hN hE
  go_enter Try.func16, Try.ntmps16
  go_wp2_with fail
  rw [HW0.out]
  have hL0 := Lib.hid (HLs.out.below hb0 hB (fun _ _ h => h))
  have cg := HX.out.cell (i := 0) rfl
  go_loopw [5] (fun iv wr => ∃ j : Nat, iv = .int .i64 j ∧ j ≤ g.nodes.length ∧ Hid (∀ i x, i < j → (g.nodes.map (·.id))[i]? = some x → x ≠ id) ∧ wr = w0) (fun iv _ => g.nodes.length - (intOf iv).toNat)
  case atStart => exact ⟨0, rfl, Nat.zero_le _, Lib.hid (fun i x hi => by omega), rfl⟩
  case round =>
    obtain ⟨j, rfl, hj, HN, hww⟩ := hrel
    subst hww
    by_cases hlt : j < g.nodes.length
    · have hlt' : (j : Int) < g.nodes.length := by omega
      have hj0 : (0 : Int) ≤ (j : Int) := by omega
      have hwi : IntKind.i64.wrap ((j : Int) + 1) = (j : Int) + 1 := IntWalk.i64_in _ (by omega)
      obtain ⟨x, hx⟩ := get_some hlt
      obtain ⟨b, off, cs, e1, hb, _, hc, hcell⟩ := hL0.out.at hx
      have hxi : (g.nodes.map (·.id))[j]? = some x.id := by rw [List.getElem?_map, hx]; rfl
      have hid : cs[0]? = some (.int .i64 x.id) := by
        obtain ⟨_, _, _, _, _, _, rfl, _⟩ := hc
        rfl
      have c0 := hcell 0 _ hid
      rw [Nat.add_zero] at c0
      subst e1
      generalize x.id = i0 at *
      by_cases hi : i0 = id
      · have HF : Hid (R = j) := Lib.hid (by rw [← HR.out]; exact idxOf_some (by rw [hxi, hi]) HN.out)
        have hi' : (i0 == id) = true := by simp [hi]
        clear hi hxi hcell hid hc hx
        go_wp2_with fail
        go_ret
        exact ⟨by rw [HF.out]; rfl, hb0⟩
      · have HN2 : Hid (∀ i x, i < j + 1 → (g.nodes.map (·.id))[i]? = some x → x ≠ id) := Lib.hid (fun i x hij hx2 => (Nat.lt_or_ge i j).elim (fun h => HN.out i x h hx2) (fun h => by
          rw [show i = j from by omega, hxi] at hx2
          injection hx2 with hx2
          rw [← hx2]; exact hi))
        have hi' : (i0 == id) = false := by simp [hi]
        clear hi hxi hcell hid hc hx
        go_wp2_with fail
        go_roundw
        case rel => exact ⟨j + 1, by go_num, by omega, HN2, by first | rfl | trivial⟩
        case measure => simp [intOf]; omega
    · have hlt' : ¬ (j : Int) < g.nodes.length := by omega
      have HF : Hid (R = -1) := Lib.hid (by rw [← HR.out]; exact idxOf_none (fun i x hx => HN.out i x (by have := (List.getElem?_eq_some_iff.1 hx).1; simp at this; omega) hx))
      go_wp2_with fail
      go_ret
      exact ⟨by rw [HF.out]; rfl, hb0⟩
set_option maxHeartbeats 4000000 in
theorem edgeAt_any (g : Gt) (id : Int) (cs : List Value) (B : Nat) (w : World) (h : IsG B w cs g) (hB : B ≤ w.heap.size) :
    Calls Try.prog 20 #[.agg cs.toArray, .int .i64 id] w fun e w' => e = .returned (.int .i64 (idxOf (g.edges.map (·.id)) id)) ∧ Below w.heap.size w w' := by
  obtain ⟨na, nc, ea, ec, rfl, hn, he, hN, hE⟩ := h
  show Calls Try.prog 20 #[.agg #[.slice na g.nodes.length nc, .slice ea g.edges.length ec], .int .i64 id] w _
  have hll : g.edges.length ≤ 9223372036854775807 := by have := he.1; omega
  have HLs := Lib.hid hE
  obtain ⟨R, hR⟩ : ∃ R, idxOf (g.edges.map (·.id)) id = R := ⟨_, rfl⟩
  have HR := Lib.hid hR
  rw [hR]
  obtain ⟨w0, hw0⟩ : ∃ w0, w.alloc (.cells #[.slice na g.nodes.length nc, .slice ea g.edges.length ec] 25) = w0 := ⟨_, rfl⟩
  have HX : Hid (Block w0 w.heap.size [.slice na g.nodes.length nc, .slice ea g.edges.length ec] 25) := Lib.hid (by rw [← hw0]; exact Block.new w _ _)
  have hb0 : Below w.heap.size w w0 := by rw [← hw0]; exact (Below.refl _ _).alloc (Nat.le_refl _) _
  have HW0 := Lib.hid hw0
  clear hR hw0 hn he hN hE
  go_enter Try.func20, Try.ntmps20
  go_wp2_with fail
  rw [HW0.out]
  have hL0 := Lib.hid (HLs.out.below hb0 hB (fun _ _ h => h))
  have cg := HX.out.cell (i := 1) rfl
  go_loopw [5] (fun iv wr => ∃ j : Nat, iv = .int .i64 j ∧ j ≤ g.edges.length ∧ Hid (∀ i x, i < j → (g.edges.map (·.id))[i]? = some x → x ≠ id) ∧ wr = w0) (fun iv _ => g.edges.length - (intOf iv).toNat)
  case atStart => exact ⟨0, rfl, Nat.zero_le _, Lib.hid (fun i x hi => by omega), rfl⟩
  case round =>
    obtain ⟨j, rfl, hj, HN, hww⟩ := hrel
    subst hww
    by_cases hlt : j < g.edges.length
    · have hlt' : (j : Int) < g.edges.length := by omega
      have hj0 : (0 : Int) ≤ (j : Int) := by omega
      have hwi : IntKind.i64.wrap ((j : Int) + 1) = (j : Int) + 1 := IntWalk.i64_in _ (by omega)
      obtain ⟨x, hx⟩ := get_some hlt
      obtain ⟨b, off, cs, e1, hb, _, hc, hcell⟩ := hL0.out.at hx
      have hxi : (g.edges.map (·.id))[j]? = some x.id := by rw [List.getElem?_map, hx]; rfl
      have hid : cs[0]? = some (.int .i64 x.id) := by
        obtain ⟨_, _, _, _, rfl, _⟩ := hc
        rfl
      have c0 := hcell 0 _ hid
      rw [Nat.add_zero] at c0
      subst e1
      generalize x.id = i0 at *
      by_cases hi : i0 = id
      · have HF : Hid (R = j) := Lib.hid (by rw [← HR.out]; exact idxOf_some (by rw [hxi, hi]) HN.out)
        have hi' : (i0 == id) = true := by simp [hi]
        clear hi hxi hcell hid hc hx
        go_wp2_with fail
        go_ret
        exact ⟨by rw [HF.out]; rfl, hb0⟩
      · have HN2 : Hid (∀ i x, i < j + 1 → (g.edges.map (·.id))[i]? = some x → x ≠ id) := Lib.hid (fun i x hij hx2 => (Nat.lt_or_ge i j).elim (fun h => HN.out i x h hx2) (fun h => by
          rw [show i = j from by omega, hxi] at hx2
          injection hx2 with hx2
          rw [← hx2]; exact hi))
        have hi' : (i0 == id) = false := by simp [hi]
        clear hi hxi hcell hid hc hx
        go_wp2_with fail
        go_roundw
        case rel => exact ⟨j + 1, by go_num, by omega, HN2, by first | rfl | trivial⟩
        case measure => simp [intOf]; omega
    · have hlt' : ¬ (j : Int) < g.edges.length := by omega
      have HF : Hid (R = -1) := Lib.hid (by rw [← HR.out]; exact idxOf_none (fun i x hx => HN.out i x (by have := (List.getElem?_eq_some_iff.1 hx).1; simp at this; omega) hx))
      go_wp2_with fail
      go_ret
      exact ⟨by rw [HF.out]; rfl, hb0⟩
end Go.Proofs.Ytoakloicjlfaaaa

/- Layer 14: the reference's May. Conditions: the graph is there. -/
namespace Go.Proofs.Ytoakloicjlfaaaa
open Go.RowKit
set_option linter.unusedSimpArgs false
set_option linter.unusedVariables false
set_option maxRecDepth 100000

def nodeOk (ns : List Nt) (i : Nat) : Bool := match ns[i]? with
  | none => true
  | some n => mayN n && (match ns[i - 1]? with | none => true | some p => decide (i = 0) || decide (p.id < n.id))
def ordE (es : List Et) (i : Nat) : Bool := match es[i]? with
  | none => true
  | some e => mayE e && (match es[i - 1]? with | none => true | some p => decide (i = 0) || decide (p.id < e.id))
def endsE (g : Gt) (i : Nat) : Bool := match g.edges[i]? with
  | none => true
  | some e => decide (0 ≤ idxOf (g.nodes.map (·.id)) e.src) && decide (0 ≤ idxOf (g.nodes.map (·.id)) e.dst)
def edgeOk (g : Gt) (i : Nat) : Bool := ordE g.edges i && endsE g i
def mayG (g : Gt) : Bool := allB g.nodes.length (nodeOk g.nodes) && allB g.edges.length (edgeOk g) && decide (g.nodes.length ≤ 4096) && decide (g.edges.length ≤ 4096)
theorem nodeOk_no {ns : List Nt} {j : Nat} {n : Nt} (hn : ns[j]? = some n) (h : mayN n = false) : nodeOk ns j = false := by
  unfold nodeOk
  rw [hn]
  simp [h]
theorem nodeOk_zero {ns : List Nt} {n : Nt} (hn : ns[0]? = some n) (h : mayN n = true) : nodeOk ns 0 = true := by
  unfold nodeOk
  rw [hn]
  simp [hn, h]
theorem nodeOk_succ {ns : List Nt} {m : Nat} {n p : Nt} (hn : ns[m + 1]? = some n) (hp : ns[m]? = some p) (h : mayN n = true) : nodeOk ns (m + 1) = decide (p.id < n.id) := by
  unfold nodeOk
  rw [hn]
  simp [hp, h]
theorem ordE_no {ns : List Et} {j : Nat} {n : Et} (hn : ns[j]? = some n) (h : mayE n = false) : ordE ns j = false := by
  unfold ordE
  rw [hn]
  simp [h]
theorem ordE_zero {ns : List Et} {n : Et} (hn : ns[0]? = some n) (h : mayE n = true) : ordE ns 0 = true := by
  unfold ordE
  rw [hn]
  simp [hn, h]
theorem ordE_succ {ns : List Et} {m : Nat} {n p : Et} (hn : ns[m + 1]? = some n) (hp : ns[m]? = some p) (h : mayE n = true) : ordE ns (m + 1) = decide (p.id < n.id) := by
  unfold ordE
  rw [hn]
  simp [hp, h]
set_option maxHeartbeats 16000000 in
theorem rmayG_any (g : Gt) (cs : List Value) (B : Nat) (w : World) (h : IsG B w cs g) (hB : B ≤ w.heap.size) :
    Calls Try.prog 7 #[.agg cs.toArray] w fun e w' => e = .returned (.bool (mayG g)) ∧ Below w.heap.size w w' := by
  have hG0 := h
  obtain ⟨na, nc, ea, ec, rfl, hn, he, hN, hE⟩ := h
  show Calls Try.prog 7 #[.agg #[.slice na g.nodes.length nc, .slice ea g.edges.length ec]] w _
  have hnl : g.nodes.length ≤ 9223372036854775807 := by have := hn.1; omega
  have hel : g.edges.length ≤ 9223372036854775807 := by have := he.1; omega
  obtain ⟨R, hR⟩ : ∃ R, mayG g = R := ⟨_, rfl⟩
  have HR := Lib.hid hR
  rw [hR]
  obtain ⟨W0, hw0⟩ : ∃ w0, w.alloc (.cells #[.slice na g.nodes.length nc, .slice ea g.edges.length ec] 25) = w0 := ⟨_, rfl⟩
  have hbx : Block W0 w.heap.size [.slice na g.nodes.length nc, .slice ea g.edges.length ec] 25 := by rw [← hw0]; exact Block.new w _ _
  have hb0 : Below w.heap.size w W0 := by rw [← hw0]; exact (Below.refl _ _).alloc (Nat.le_refl _) _
  have hsz : w.heap.size + 1 ≤ W0.heap.size := by rw [← hw0]; simp
  have hlt0 : w.heap.size < w.heap.size + 1 := by omega
  have hbe : ∀ u : Ext (w.heap.size + 1) W0, Below w.heap.size w u.w := fun u => hb0.trans (u.below.mono (by omega))
  have hue : ∀ u : Ext (w.heap.size + 1) W0, w.heap.size + 1 ≤ u.w.heap.size := fun u => Nat.le_trans hsz u.below.size
  have e0 : ∀ u : Ext (w.heap.size + 1) W0, u.w.cell? ⟨w.heap.size, 0, none⟩ = some (.slice na g.nodes.length nc) := fun u => u.cell hlt0 (hbx.cell rfl)
  have e1 : ∀ u : Ext (w.heap.size + 1) W0, u.w.cell? ⟨w.heap.size, 1, none⟩ = some (.slice ea g.edges.length ec) := fun u => u.cell hlt0 (hbx.cell rfl)
  have HNS : Hid (∀ u : Ext (w.heap.size + 1) W0, RowR (IsN B u.w) 4 B u.w na g.nodes) := Lib.hid (fun u => hN.below (hbe u) hB (fun _ _ h => h.below (hbe u) hB))
  have HES : Hid (∀ u : Ext (w.heap.size + 1) W0, RowR (IsE B u.w) 6 B u.w ea g.edges) := Lib.hid (fun u => hE.below (hbe u) hB (fun _ _ h => h.below (hbe u) hB))
  have HGS : Hid (∀ u : Ext (w.heap.size + 1) W0, IsG B u.w [.slice na g.nodes.length nc, .slice ea g.edges.length ec] g) := Lib.hid (fun u => hG0.below (hbe u) hB)
  have HBE := Lib.hid hbe
  have HUE := Lib.hid hue
  have HSZ := Lib.hid hsz
  have HW0 := Lib.hid hw0
  obtain ⟨u0, hu0⟩ := Ext.start (w.heap.size + 1) W0
  have HU0 := Lib.hid hu0
  clear hR hw0 hn he hN hE hbx hb0 hsz hbe hue hu0 hG0
  go_enter Try.func7, Try.ntmps7
  go_wp2_with fail
  rw [HW0.out, HU0.out]
  go_loopw [3] (fun iv wr => ∃ (j : Nat) (u : Ext (w.heap.size + 1) W0), iv = .int .i64 j ∧ j ≤ g.nodes.length ∧ Hid (∀ i, i < j → nodeOk g.nodes i = true) ∧ wr = u.w) (fun iv _ => g.nodes.length - (intOf iv).toNat)
  case atStart => exact ⟨0, u0, rfl, Nat.zero_le _, Lib.hid (fun i hi => by omega), rfl⟩
  case round =>
    obtain ⟨j, u, rfl, hj, HALL, rfl⟩ := hrel
    by_cases hlt : j < g.nodes.length
    · have hlt' : (j : Int) < g.nodes.length := by omega
      have hj0 : (0 : Int) ≤ (j : Int) := by omega
      have hwi : IntKind.i64.wrap ((j : Int) + 1) = (j : Int) + 1 := IntWalk.i64_in _ (by omega)
      obtain ⟨n, hnj⟩ := get_some hlt
      obtain ⟨b, off, cs, e1', hbB, _, hc, hcell⟩ := (HNS.out u0).at hnj
      have hc0 := hc
      obtain ⟨la, lc, ka, kc, va, vc, rfl, _, _, _, _⟩ := hc
      have hk : ∀ (u : Ext (w.heap.size + 1) W0) (q : Nat) v, [Value.int .i64 n.id, .slice la n.labels.length lc, .slice ka n.keys.length kc, .slice va n.vals.length vc][q]? = some v → u.w.cell? ⟨b, off + j * 4 + q, none⟩ = some v := by
        intro u q v hv
        have h1 := hcell q v hv
        rw [(HBE.out u).cell (by show b < _; omega), ← (HBE.out u0).cell (by show b < _; omega)]
        exact h1
      have hnw : ∀ u : Ext (w.heap.size + 1) W0, IsN B u.w [.int .i64 n.id, .slice la n.labels.length lc, .slice ka n.keys.length kc, .slice va n.vals.length vc] n := by
        intro u
        obtain ⟨b', off', cs', e2', _, h4', hc', hcell'⟩ := (HNS.out u).at hnj
        rw [e1'] at e2'
        injection e2' with e2'
        injection e2' with e2' e3'
        subst e2' e3'
        have : cs' = [.int .i64 n.id, .slice la n.labels.length lc, .slice ka n.keys.length kc, .slice va n.vals.length vc] := by
          obtain ⟨c0, c1, c2, c3, rfl⟩ := list4 h4'
          have q0 := (hcell' 0 _ rfl).symm.trans (hk u 0 _ rfl)
          have q1 := (hcell' 1 _ rfl).symm.trans (hk u 1 _ rfl)
          have q2 := (hcell' 2 _ rfl).symm.trans (hk u 2 _ rfl)
          have q3 := (hcell' 3 _ rfl).symm.trans (hk u 3 _ rfl)
          injection q0 with q0
          injection q1 with q1
          injection q2 with q2
          injection q3 with q3
          rw [q0, q1, q2, q3]
        rw [← this]
        exact hc'
      have HI := Lib.hid (fun u : Ext (w.heap.size + 1) W0 => ext_call u HSZ.out (rMayNode_any n _ B u.w (hnw u) (Nat.le_trans hB (HBE.out u).size)))
      have k0 : ∀ u : Ext (w.heap.size + 1) W0, u.w.cell? ⟨b, off + j * 4, none⟩ = some (.int .i64 n.id) := fun u => hk u 0 _ rfl
      have k1 := fun u => hk u 1 _ rfl
      have k2 := fun u => hk u 2 _ rfl
      have k3 := fun u => hk u 3 _ rfl
      subst e1'
      have HHK := Lib.hid hk
      clear hcell hc0 hk hnw
      cases hok : mayN n with
      | false =>
        rw [hok] at HI
        have HF : Hid (R = false) := Lib.hid (by rw [← HR.out]; unfold mayG; rw [allB_false hlt (nodeOk_no hnj hok)]; simp)
        clear hok hnj
        generalize n.id = i0 at *
        generalize n.labels.length = nl at *
        generalize n.keys.length = nk at *
        generalize n.vals.length = nv at *
        go_wp2_with fail
        refine wp_region_at u (by kernel_rfl) (by kernel_rfl) ?_
        repeat (go_big_quiet_step (first | (with_reducible exact HI.out _)))
        refine wpQuiet_nil ?_
        rintro w2 ⟨u2, rfl⟩
        go_wp2_with fail
        go_ret
        exact ⟨by rw [HF.out]; rfl, HBE.out u2⟩
      | true =>
        rw [hok] at HI
        by_cases h0 : j = 0
        · have h0' : ¬ (0 : Int) < (j : Int) := by omega
          have h0n : ¬ 0 < j := by omega
          have HA : Hid (nodeOk g.nodes j = true) := Lib.hid (by subst h0; exact nodeOk_zero hnj hok)
          clear hok hnj h0
          generalize n.id = i0 at *
          generalize n.labels.length = nl at *
          generalize n.keys.length = nk at *
          generalize n.vals.length = nv at *
          go_wp2_with fail
          refine wp_region_at u (by kernel_rfl) (by kernel_rfl) ?_
          repeat (go_big_quiet_step (first | (with_reducible exact HI.out _)))
          refine wpQuiet_nil ?_
          rintro w2 ⟨u2, rfl⟩
          go_wp2_with fail
          go_roundw
          case rel => exact ⟨j + 1, u2, by go_num, by omega, Lib.hid (fun i hi => (Nat.lt_or_ge i j).elim (fun h => HALL.out i h) (fun h => by rw [show i = j from by omega]; exact HA.out)), rfl⟩
          case measure => simp [intOf]; omega
        · obtain ⟨m, hm⟩ : ∃ m, m + 1 = j := ⟨j - 1, by omega⟩
          have h0' : (0 : Int) < (j : Int) := by omega
          have h0n : 0 < j := by omega
          have hwj : IntKind.i64.wrap ((j : Int) - 1) = (m : Int) := by rw [IntWalk.i64_in _ (by omega)]; omega
          have hml : (m : Int) < g.nodes.length := by omega
          have hm0 : (0 : Int) ≤ (m : Int) := by omega
          obtain ⟨p, hp⟩ := get_some (l := g.nodes) (j := m) (by omega)
          have kp : ∀ u : Ext (w.heap.size + 1) W0, u.w.cell? ⟨b, off + m * 4, none⟩ = some (.int .i64 p.id) := by
            intro u
            obtain ⟨b', off', cs', e2, _, _, hc', hcell'⟩ := (HNS.out u).at hp
            obtain ⟨_, _, _, _, _, _, rfl, _⟩ := hc'
            injection e2 with e2
            injection e2 with e2 e3
            subst e2 e3
            exact hcell' 0 _ rfl
          have hrs : nodeOk g.nodes j = decide (p.id < n.id) := by rw [← hm] at hnj ⊢; exact nodeOk_succ hnj hp hok
          clear hok hnj hp hm
          generalize p.id = p0 at *
          generalize n.id = i0 at *
          generalize n.labels.length = nl at *
          generalize n.keys.length = nk at *
          generalize n.vals.length = nv at *
          by_cases hls : p0 < i0
          · have hle : ¬ i0 ≤ p0 := by omega
            have HA : Hid (nodeOk g.nodes j = true) := Lib.hid (hrs.trans (decide_eq_true hls))
            clear hrs hls
            go_wp2_with fail
            refine wp_region_at u (by kernel_rfl) (by kernel_rfl) ?_
            repeat (go_big_quiet_step (first | (with_reducible exact HI.out _)))
            refine wpQuiet_nil ?_
            rintro w2 ⟨u2, rfl⟩
            go_wp2_with fail
            go_roundw
            case rel => exact ⟨j + 1, u2, by go_num, by omega, Lib.hid (fun i hi => (Nat.lt_or_ge i j).elim (fun h => HALL.out i h) (fun h => by rw [show i = j from by omega]; exact HA.out)), rfl⟩
            case measure => simp [intOf]; omega
          · have hle : i0 ≤ p0 := by omega
            have HF : Hid (R = false) := Lib.hid (by rw [← HR.out]; unfold mayG; rw [allB_false hlt (hrs.trans (decide_eq_false hls))]; simp)
            clear hrs hls
            go_wp2_with fail
            refine wp_region_at u (by kernel_rfl) (by kernel_rfl) ?_
            repeat (go_big_quiet_step (first | (with_reducible exact HI.out _)))
            refine wpQuiet_nil ?_
            rintro w2 ⟨u2, rfl⟩
            go_wp2_with fail
            go_ret
            exact ⟨by rw [HF.out]; rfl, HBE.out u2⟩
    · have hlt' : ¬ (j : Int) < g.nodes.length := by omega
      have HNA : Hid (allB g.nodes.length (nodeOk g.nodes) = true) := Lib.hid (allB_true (fun i hi => HALL.out i (by omega)))
      clear HALL
      go_wp2_with fail
      go_loopw [4] (fun iv wr => ∃ (j : Nat) (u : Ext (w.heap.size + 1) W0), iv = .int .i64 j ∧ j ≤ g.edges.length ∧ Hid (∀ i, i < j → edgeOk g i = true) ∧ wr = u.w) (fun iv _ => g.edges.length - (intOf iv).toNat)
      case atStart => exact ⟨0, u, rfl, Nat.zero_le _, Lib.hid (fun i hi => by omega), rfl⟩
      case round =>
        obtain ⟨j, u, rfl, hj, HALL, rfl⟩ := hrel
        by_cases hlt : j < g.edges.length
        · have hlt' : (j : Int) < g.edges.length := by omega
          have hj0 : (0 : Int) ≤ (j : Int) := by omega
          have hwi : IntKind.i64.wrap ((j : Int) + 1) = (j : Int) + 1 := IntWalk.i64_in _ (by omega)
          obtain ⟨n, hnj⟩ := get_some hlt
          have hus := HUE.out u
          obtain ⟨b, off, cs, e1', hbB, _, hc, hcell⟩ := (HES.out u).at hnj
          have hc0 := hc
          obtain ⟨ka, kc, va, vc, rfl, _, _⟩ := hc
          obtain ⟨W1, hw1⟩ : ∃ w0, u.w.alloc (.cells #[.int .i64 n.id, .int .i64 n.src, .int .i64 n.dst, .string n.ty, .slice ka n.keys.length kc, .slice va n.vals.length vc] 40) = w0 := ⟨_, rfl⟩
          have hbx : Block W1 u.w.heap.size [.int .i64 n.id, .int .i64 n.src, .int .i64 n.dst, .string n.ty, .slice ka n.keys.length kc, .slice va n.vals.length vc] 40 := by rw [← hw1]; exact Block.new u.w _ _
          have hb1 : Below u.w.heap.size u.w W1 := by rw [← hw1]; exact (Below.refl _ _).alloc (Nat.le_refl _) _
          have hsz1 : u.w.heap.size + 1 ≤ W1.heap.size := by rw [← hw1]; simp
          have hlt1 : u.w.heap.size < u.w.heap.size + 1 := by omega
          have hv : ∀ x : Ext (u.w.heap.size + 1) W1, Below u.w.heap.size u.w x.w := fun x => hb1.trans (x.below.mono (by omega))
          have hvx : ∀ x : Ext (u.w.heap.size + 1) W1, ∃ y : Ext (w.heap.size + 1) W0, x.w = y.w := fun x => ⟨⟨x.w, u.below.trans ((hv x).mono hus)⟩, rfl⟩
          have i0 : ∀ x : Ext (u.w.heap.size + 1) W1, x.w.cell? ⟨u.w.heap.size, 0, none⟩ = some (.int .i64 n.id) := fun x => x.cell hlt1 (hbx.cell rfl)
          have i1 : ∀ x : Ext (u.w.heap.size + 1) W1, x.w.cell? ⟨u.w.heap.size, 1, none⟩ = some (.int .i64 n.src) := fun x => x.cell hlt1 (hbx.cell rfl)
          have i2 : ∀ x : Ext (u.w.heap.size + 1) W1, x.w.cell? ⟨u.w.heap.size, 2, none⟩ = some (.int .i64 n.dst) := fun x => x.cell hlt1 (hbx.cell rfl)
          have i3 : ∀ x : Ext (u.w.heap.size + 1) W1, x.w.cell? ⟨u.w.heap.size, 3, none⟩ = some (.string n.ty) := fun x => x.cell hlt1 (hbx.cell rfl)
          have i4 : ∀ x : Ext (u.w.heap.size + 1) W1, x.w.cell? ⟨u.w.heap.size, 4, none⟩ = some (.slice ka n.keys.length kc) := fun x => x.cell hlt1 (hbx.cell rfl)
          have i5 : ∀ x : Ext (u.w.heap.size + 1) W1, x.w.cell? ⟨u.w.heap.size, 5, none⟩ = some (.slice va n.vals.length vc) := fun x => x.cell hlt1 (hbx.cell rfl)
          have f0 : ∀ x : Ext (u.w.heap.size + 1) W1, x.w.cell? ⟨w.heap.size, 0, none⟩ = some (.slice na g.nodes.length nc) := fun x => by obtain ⟨y, hy⟩ := hvx x; rw [hy]; exact e0 y
          have f1 : ∀ x : Ext (u.w.heap.size + 1) W1, x.w.cell? ⟨w.heap.size, 1, none⟩ = some (.slice ea g.edges.length ec) := fun x => by obtain ⟨y, hy⟩ := hvx x; rw [hy]; exact e1 y
          have HI := Lib.hid (fun x : Ext (u.w.heap.size + 1) W1 => ext_call x hsz1 (rMayEdge_any n _ B x.w (hc0.below ((hv x).mono (Nat.le_trans hB (HBE.out u).size)) (Nat.le_refl _)) (Nat.le_trans hB (Nat.le_trans (HBE.out u).size (hv x).size))))
          have HS := Lib.hid (fun x : Ext (u.w.heap.size + 1) W1 => ext_call x hsz1 (nodeAt_any g n.src _ B x.w (by obtain ⟨y, hy⟩ := hvx x; rw [hy]; exact HGS.out y) (Nat.le_trans hB (Nat.le_trans (HBE.out u).size (hv x).size))))
          have HD := Lib.hid (fun x : Ext (u.w.heap.size + 1) W1 => ext_call x hsz1 (nodeAt_any g n.dst _ B x.w (by obtain ⟨y, hy⟩ := hvx x; rw [hy]; exact HGS.out y) (Nat.le_trans hB (Nat.le_trans (HBE.out u).size (hv x).size))))
          have k0 : u.w.cell? ⟨b, off + j * 6, none⟩ = some (.int .i64 n.id) := hcell 0 _ rfl
          have k1 := hcell 1 _ rfl
          have k2 := hcell 2 _ rfl
          have k3 := hcell 3 _ rfl
          have k4 := hcell 4 _ rfl
          have k5 := hcell 5 _ rfl
          subst e1'
          have HVX := Lib.hid hvx
          have HW1 := Lib.hid hw1
          obtain ⟨x0, hx0⟩ := Ext.start (u.w.heap.size + 1) W1
          have HX0 := Lib.hid hx0
          have HEN : Hid (endsE g j = (decide (0 ≤ idxOf (g.nodes.map (·.id)) n.src) && decide (0 ≤ idxOf (g.nodes.map (·.id)) n.dst))) := Lib.hid (by unfold endsE; rw [hnj])
          clear hcell hc0 hvx hv hw1 hx0 hbx hb1 hsz1
          cases hok : mayE n with
          | false =>
            rw [hok] at HI
            have HF : Hid (R = false) := Lib.hid (by rw [← HR.out]; unfold mayG; rw [allB_false (n := g.edges.length) hlt (by unfold edgeOk; rw [ordE_no hnj hok]; rfl)]; simp)
            clear hok hnj
            generalize n.id = n0 at *
            generalize n.src = n1 at *
            generalize n.dst = n2 at *
            generalize n.ty = n3 at *
            generalize n.keys.length = nk at *
            generalize n.vals.length = nv at *
            go_wp2_with fail
            rw [HW1.out, HX0.out]
            refine wp_region_at x0 (by kernel_rfl) (by kernel_rfl) ?_
            repeat (go_big_quiet_step (first | (with_reducible exact HI.out _) | (with_reducible exact HS.out _) | (with_reducible exact HD.out _)))
            refine wpQuiet_nil ?_
            rintro w2 ⟨u2, rfl⟩
            go_wp2_with fail
            go_ret
            obtain ⟨y2, hy2⟩ := HVX.out u2
            rw [hy2]
            exact ⟨by rw [HF.out]; rfl, HBE.out y2⟩
          | true =>
            rw [hok] at HI
            by_cases h0 : j = 0
            · have h0' : ¬ (0 : Int) < (j : Int) := by omega
              have h0n : ¬ 0 < j := by omega
              have HO : Hid (ordE g.edges j = true) := Lib.hid (by subst h0; exact ordE_zero hnj hok)
              clear hok hnj h0
              generalize n.id = n0 at *
              generalize n.src = n1 at *
              generalize n.dst = n2 at *
              generalize n.ty = n3 at *
              generalize n.keys.length = nk at *
              generalize n.vals.length = nv at *
              obtain ⟨qs, hqs⟩ : ∃ q, idxOf (g.nodes.map (·.id)) n1 = q := ⟨_, rfl⟩
              obtain ⟨qd, hqd⟩ : ∃ q, idxOf (g.nodes.map (·.id)) n2 = q := ⟨_, rfl⟩
              rw [hqs] at HS HEN
              rw [hqd] at HD HEN
              clear hqs hqd
              by_cases hs : qs < 0
              · have HF : Hid (R = false) := Lib.hid (by rw [← HR.out]; unfold mayG; rw [allB_false (n := g.edges.length) hlt (by unfold edgeOk; rw [HEN.out, decide_eq_false (by omega : ¬ 0 ≤ qs)]; simp)]; simp)
                go_wp2_with fail
                rw [HW1.out, HX0.out]
                refine wp_region_at x0 (by kernel_rfl) (by kernel_rfl) ?_
                repeat (go_big_quiet_step (first | (with_reducible exact HI.out _) | (with_reducible exact HS.out _) | (with_reducible exact HD.out _)))
                refine wpQuiet_nil ?_
                rintro w2 ⟨u2, rfl⟩
                go_wp2_with fail
                go_ret
                obtain ⟨y2, hy2⟩ := HVX.out u2
                rw [hy2]
                exact ⟨by rw [HF.out]; rfl, HBE.out y2⟩
              · have hs1 : 0 ≤ qs := by omega
                have hs2 : decide (qs < 0) = false := decide_eq_false hs
                by_cases hd : qd < 0
                · have HF : Hid (R = false) := Lib.hid (by rw [← HR.out]; unfold mayG; rw [allB_false (n := g.edges.length) hlt (by unfold edgeOk; rw [HEN.out, decide_eq_false (by omega : ¬ 0 ≤ qd)]; simp)]; simp)
                  go_wp2_with fail
                  rw [HW1.out, HX0.out]
                  refine wp_region_at x0 (by kernel_rfl) (by kernel_rfl) ?_
                  repeat (go_big_quiet_step (first | (with_reducible exact HI.out _) | (with_reducible exact HS.out _) | (with_reducible exact HD.out _)))
                  refine wpQuiet_nil ?_
                  rintro w2 ⟨u2, rfl⟩
                  go_wp2_with fail
                  go_ret
                  obtain ⟨y2, hy2⟩ := HVX.out u2
                  rw [hy2]
                  exact ⟨by rw [HF.out]; rfl, HBE.out y2⟩
                · have hd1 : 0 ≤ qd := by omega
                  have hd2 : decide (qd < 0) = false := decide_eq_false hd
                  have HA : Hid (edgeOk g j = true) := Lib.hid (by unfold edgeOk; rw [HO.out, HEN.out, decide_eq_true (by omega : 0 ≤ qs), decide_eq_true (by omega : 0 ≤ qd)]; rfl)
                  go_wp2_with fail
                  rw [HW1.out, HX0.out]
                  refine wp_region_at x0 (by kernel_rfl) (by kernel_rfl) ?_
                  repeat (go_big_quiet_step (first | (with_reducible exact HI.out _) | (with_reducible exact HS.out _) | (with_reducible exact HD.out _)))
                  refine wpQuiet_nil ?_
                  rintro w2 ⟨u2, rfl⟩
                  obtain ⟨y2, hy2⟩ := HVX.out u2
                  have HY2 := Lib.hid hy2
                  clear hy2
                  go_wp2_with fail
                  go_roundw
                  case rel => exact ⟨j + 1, y2, by go_num, by omega, Lib.hid (fun i hi => (Nat.lt_or_ge i j).elim (fun h => HALL.out i h) (fun h => by rw [show i = j from by omega]; exact HA.out)), HY2.out⟩
                  case measure => simp [intOf]; omega
            · obtain ⟨m, hm⟩ : ∃ m, m + 1 = j := ⟨j - 1, by omega⟩
              have h0' : (0 : Int) < (j : Int) := by omega
              have h0n : 0 < j := by omega
              have hwj : IntKind.i64.wrap ((j : Int) - 1) = (m : Int) := by rw [IntWalk.i64_in _ (by omega)]; omega
              have hml : (m : Int) < g.edges.length := by omega
              have hm0 : (0 : Int) ≤ (m : Int) := by omega
              obtain ⟨p, hp⟩ := get_some (l := g.edges) (j := m) (by omega)
              have kp : ∀ x : Ext (u.w.heap.size + 1) W1, x.w.cell? ⟨b, off + m * 6, none⟩ = some (.int .i64 p.id) := by
                intro x
                obtain ⟨y, hy⟩ := HVX.out x
                rw [hy]
                obtain ⟨b', off', cs', e2, _, _, hc', hcell'⟩ := (HES.out y).at hp
                obtain ⟨_, _, _, _, rfl, _⟩ := hc'
                injection e2 with e2
                injection e2 with e2 e3
                subst e2 e3
                exact hcell' 0 _ rfl
              have hrs : ordE g.edges j = decide (p.id < n.id) := by rw [← hm] at hnj ⊢; exact ordE_succ hnj hp hok
              clear hok hnj hp hm
              generalize p.id = p0 at *
              generalize n.id = n0 at *
              generalize n.src = n1 at *
              generalize n.dst = n2 at *
              generalize n.ty = n3 at *
              generalize n.keys.length = nk at *
              generalize n.vals.length = nv at *
              by_cases hls : p0 < n0
              · have hle : ¬ n0 ≤ p0 := by omega
                have hle2 : decide (n0 ≤ p0) = false := decide_eq_false hle
                have HO : Hid (ordE g.edges j = true) := Lib.hid (hrs.trans (decide_eq_true hls))
                clear hrs hls
                obtain ⟨qs, hqs⟩ : ∃ q, idxOf (g.nodes.map (·.id)) n1 = q := ⟨_, rfl⟩
                obtain ⟨qd, hqd⟩ : ∃ q, idxOf (g.nodes.map (·.id)) n2 = q := ⟨_, rfl⟩
                rw [hqs] at HS HEN
                rw [hqd] at HD HEN
                clear hqs hqd
                by_cases hs : qs < 0
                · have HF : Hid (R = false) := Lib.hid (by rw [← HR.out]; unfold mayG; rw [allB_false (n := g.edges.length) hlt (by unfold edgeOk; rw [HEN.out, decide_eq_false (by omega : ¬ 0 ≤ qs)]; simp)]; simp)
                  go_wp2_with fail
                  rw [HW1.out, HX0.out]
                  refine wp_region_at x0 (by kernel_rfl) (by kernel_rfl) ?_
                  repeat (go_big_quiet_step (first | (with_reducible exact HI.out _) | (with_reducible exact HS.out _) | (with_reducible exact HD.out _)))
                  refine wpQuiet_nil ?_
                  rintro w2 ⟨u2, rfl⟩
                  go_wp2_with fail
                  go_ret
                  obtain ⟨y2, hy2⟩ := HVX.out u2
                  rw [hy2]
                  exact ⟨by rw [HF.out]; rfl, HBE.out y2⟩
                · have hs1 : 0 ≤ qs := by omega
                  have hs2 : decide (qs < 0) = false := decide_eq_false hs
                  by_cases hd : qd < 0
                  · have HF : Hid (R = false) := Lib.hid (by rw [← HR.out]; unfold mayG; rw [allB_false (n := g.edges.length) hlt (by unfold edgeOk; rw [HEN.out, decide_eq_false (by omega : ¬ 0 ≤ qd)]; simp)]; simp)
                    go_wp2_with fail
                    rw [HW1.out, HX0.out]
                    refine wp_region_at x0 (by kernel_rfl) (by kernel_rfl) ?_
                    repeat (go_big_quiet_step (first | (with_reducible exact HI.out _) | (with_reducible exact HS.out _) | (with_reducible exact HD.out _)))
                    refine wpQuiet_nil ?_
                    rintro w2 ⟨u2, rfl⟩
                    go_wp2_with fail
                    go_ret
                    obtain ⟨y2, hy2⟩ := HVX.out u2
                    rw [hy2]
                    exact ⟨by rw [HF.out]; rfl, HBE.out y2⟩
                  · have hd1 : 0 ≤ qd := by omega
                    have hd2 : decide (qd < 0) = false := decide_eq_false hd
                    have HA : Hid (edgeOk g j = true) := Lib.hid (by unfold edgeOk; rw [HO.out, HEN.out, decide_eq_true (by omega : 0 ≤ qs), decide_eq_true (by omega : 0 ≤ qd)]; rfl)
                    go_wp2_with fail
                    rw [HW1.out, HX0.out]
                    refine wp_region_at x0 (by kernel_rfl) (by kernel_rfl) ?_
                    repeat (go_big_quiet_step (first | (with_reducible exact HI.out _) | (with_reducible exact HS.out _) | (with_reducible exact HD.out _)))
                    refine wpQuiet_nil ?_
                    rintro w2 ⟨u2, rfl⟩
                    obtain ⟨y2, hy2⟩ := HVX.out u2
                    have HY2 := Lib.hid hy2
                    clear hy2
                    go_wp2_with fail
                    go_roundw
                    case rel => exact ⟨j + 1, y2, by go_num, by omega, Lib.hid (fun i hi => (Nat.lt_or_ge i j).elim (fun h => HALL.out i h) (fun h => by rw [show i = j from by omega]; exact HA.out)), HY2.out⟩
                    case measure => simp [intOf]; omega
              · have hle : n0 ≤ p0 := by omega
                have HF : Hid (R = false) := Lib.hid (by rw [← HR.out]; unfold mayG; rw [allB_false (n := g.edges.length) hlt (by unfold edgeOk; rw [hrs, decide_eq_false hls]; rfl)]; simp)
                clear hrs hls
                go_wp2_with fail
                rw [HW1.out, HX0.out]
                refine wp_region_at x0 (by kernel_rfl) (by kernel_rfl) ?_
                repeat (go_big_quiet_step (first | (with_reducible exact HI.out _) | (with_reducible exact HS.out _) | (with_reducible exact HD.out _)))
                refine wpQuiet_nil ?_
                rintro w2 ⟨u2, rfl⟩
                go_wp2_with fail
                go_ret
                obtain ⟨y2, hy2⟩ := HVX.out u2
                rw [hy2]
                exact ⟨by rw [HF.out]; rfl, HBE.out y2⟩
        · have hlt' : ¬ (j : Int) < g.edges.length := by omega
          have HEA : Hid (allB g.edges.length (edgeOk g) = true) := Lib.hid (allB_true (fun i hi => HALL.out i (by omega)))
          by_cases hn4 : g.nodes.length ≤ 4096
          · have hn4' : (g.nodes.length : Int) ≤ 4096 := by omega
            by_cases he4 : g.edges.length ≤ 4096
            · have he4' : (g.edges.length : Int) ≤ 4096 := by omega
              have HF : Hid (R = true) := Lib.hid (by rw [← HR.out]; unfold mayG; rw [HNA.out, HEA.out, decide_eq_true hn4, decide_eq_true he4]; rfl)
              go_wp2_with fail
              go_ret
              exact ⟨by rw [HF.out]; rfl, HBE.out u⟩
            · have he4' : ¬ (g.edges.length : Int) ≤ 4096 := by omega
              have HF : Hid (R = false) := Lib.hid (by rw [← HR.out]; unfold mayG; rw [decide_eq_false he4]; simp)
              go_wp2_with fail
              go_ret
              exact ⟨by rw [HF.out]; rfl, HBE.out u⟩
          · have hn4' : ¬ (g.nodes.length : Int) ≤ 4096 := by omega
            have HF : Hid (R = false) := Lib.hid (by rw [← HR.out]; unfold mayG; rw [decide_eq_false hn4]; simp)
            go_wp2_with fail
            go_ret
            exact ⟨by rw [HF.out]; rfl, HBE.out u⟩
end Go.Proofs.Ytoakloicjlfaaaa

/- Layer 3: the contracts of place, number, first, cmp.Compare (value's Order). Conditions: a kind from 0 to 7. -/
namespace Go.Proofs.Ytoakloicjlfaaaa
open Go.RowKit
set_option linter.unusedSimpArgs false
set_option linter.unusedVariables false

def cmpI (a b : Int) : Int := if a < b then -1 else if b < a then 1 else 0
def cmpS (a b : ByteArray) : Int := if Op.bytesLess a.toList b.toList then -1 else if Op.bytesLess b.toList a.toList then 1 else 0
def firstI : List Int → Int
  | [] => 0
  | x :: xs => if x = 0 then firstI xs else x
def placeI (k : Int) : Int := [7, 5, 6, 4, 3, 0, 1, 2].getD k.toNat 0
theorem nanL_any (a : Int) (w : World) : Calls Try.prog 91 #[.int .i64 a] w fun e w' => e = .returned (.bool false) ∧ w = w' := by
  go_enter Try.func91, Try.ntmps91
  go_wp2_with fail
  go_ret
  exact ⟨by simp, rfl⟩
theorem cmpL_any (a b : Int) (w : World) : Calls Try.prog 74 #[.int .i64 a, .int .i64 b] w fun e w' => e = .returned (.int .i64 (cmpI a b)) ∧ w = w' := by
  have H1 := Lib.hid (nanL_any a w)
  have H2 := Lib.hid (nanL_any b w)
  have HC : Hid (cmpI a b = if a < b then -1 else if b < a then 1 else 0) := Lib.hid rfl
  rw [HC.out]
  by_cases h1 : a < b
  · rw [if_pos h1]
    go_enter Try.func74, Try.ntmps74
    go_wp2_with fail
    refine H1.out.mono ?_
    rintro e w1 ⟨rfl, rfl⟩
    go_wp2_with fail
    refine H2.out.mono ?_
    rintro e w1 ⟨rfl, rfl⟩
    go_wp2_with fail
    go_ret
    exact ⟨by rfl, rfl⟩
  · rw [if_neg h1]
    by_cases h2 : b < a
    · rw [if_pos h2]
      go_enter Try.func74, Try.ntmps74
      go_wp2_with fail
      refine H1.out.mono ?_
      rintro e w1 ⟨rfl, rfl⟩
      go_wp2_with fail
      refine H2.out.mono ?_
      rintro e w1 ⟨rfl, rfl⟩
      go_wp2_with fail
      go_ret
      exact ⟨by rfl, rfl⟩
    · rw [if_neg h2]
      go_enter Try.func74, Try.ntmps74
      go_wp2_with fail
      refine H1.out.mono ?_
      rintro e w1 ⟨rfl, rfl⟩
      go_wp2_with fail
      refine H2.out.mono ?_
      rintro e w1 ⟨rfl, rfl⟩
      go_wp2_with fail
      go_ret
      exact ⟨by rfl, rfl⟩
theorem firstI_drop {l : List Int} {j : Nat} {x : Int} (h : l[j]? = some x) : firstI (l.drop j) = if x = 0 then firstI (l.drop (j + 1)) else x := by
  obtain ⟨h1, h2⟩ := List.getElem?_eq_some_iff.1 h
  rw [List.drop_eq_getElem_cons h1, h2]; rfl
end Go.Proofs.Ytoakloicjlfaaaa

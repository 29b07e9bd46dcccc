/- Rows of values of their own memory that grow by append. Conditions: none. -/
import Derived.Test.YtdkgjbjlpofieaaLawT
namespace Go.Proofs.Ytdkgjbjlpofieaa
open Go.RowKit
set_option linter.unusedSimpArgs false
set_option linter.unusedVariables false

/-- A row of the call's own (all of it from block B on), whose elements lie in blocks of their own. -/
structure RowO (B : Nat) (wr : World) (lv : Value) (j : Nat) (cl : List Value) (l : List Vt) (bs : List Nat) : Prop where
  own : wr.ownsRow B 26 6 lv j cl
  os : IsOs wr cl 0 l bs
  nd : bs.Nodup
  lt : ∀ b ∈ bs, B ≤ b ∧ b < wr.heap.size
  ne : ∀ b ∈ bs, lv.ownBlock ≠ some b
  len : l.length = j
theorem RowO.nil (B : Nat) (wr : World) : RowO B wr (.slice none 0 0) 0 [] [] [] :=
  ⟨⟨rfl, .inl ⟨rfl, rfl⟩⟩, by unfold IsOs; rfl, List.nodup_nil, by simp, by simp, rfl⟩
theorem RowO.same {B : Nat} {wr w' : World} {lv : Value} {j : Nat} {cl : List Value} {l : List Vt} {bs : List Nat} (h : RowO B wr lv j cl l bs) (hb : Below wr.heap.size wr w') : RowO B w' lv j cl l bs :=
  ⟨own_of_heap h.own fun k e => hb.block k (h.own.lt k e).2, IsOs.same l (fun _ t _ cs bs h hb => IsO.same t cs bs h hb) _ _ _ h.os fun b hb' => hb.block b (h.lt b hb').2, h.nd, fun b hb' => ⟨(h.lt b hb').1, Nat.lt_of_lt_of_le (h.lt b hb').2 hb.size⟩, h.ne, h.len⟩
theorem RowO.step {B : Nat} {wr w2 w3 : World} {lv v : Value} {j g : Nat} {cl cs : List Value} {l : List Vt} {bs bs2 : List Nat} {t : Vt} {Y : Obj} (h : RowO B wr lv j cl l bs) (hb : Below wr.heap.size wr w2) (hBw : B ≤ wr.heap.size)
    (ho : IsO w2 cs t bs2) (hn : bs2.Nodup) (hr : ∀ b ∈ bs2, wr.heap.size ≤ b ∧ b < w2.heap.size) (hown : w3.ownsRow B 26 6 v (j + 1) (cl ++ cs)) (hg : (w2.alloc Y).grownBy w3 lv.ownBlock)
    (hv : v.ownBlock = some g) (hat : lv.ownBlock = some g ∨ g = w2.heap.size + 1) : RowO B w3 v (j + 1) (cl ++ cs) (l ++ [t]) (bs ++ bs2) := by
  have hL : ∀ b, lv.ownBlock = some b → B ≤ b ∧ b < wr.heap.size := h.own.lt
  have hz := hb.size
  have hgz : w2.heap.size + 1 ≤ w3.heap.size := by have := hg.size; simpa using this
  have hk : ∀ b, b < w2.heap.size → lv.ownBlock ≠ some b → w3.heap[b]? = w2.heap[b]? := fun b hb hn => by
    rw [hg.block b (by simp; omega) (fun e => hn e.symm)]
    exact Below.heap_alloc _ _ _ hb
  have hk1 : ∀ b ∈ bs, w3.heap[b]? = wr.heap[b]? := fun b hm => by
    rw [hk b (by have := (h.lt b hm).2; omega) (h.ne b hm)]
    exact hb.block b (h.lt b hm).2
  have hk2 : ∀ b ∈ bs2, w3.heap[b]? = w2.heap[b]? := fun b hm => hk b (hr b hm).2 (fun e => by have := (hL b e).2; have := (hr b hm).1; omega)
  have hlen : cl.length = l.length * 6 := by have := h.own.1; rw [h.len]; simpa using this
  refine ⟨hown, ?_, ?_, ?_, ?_, by simp [h.len]⟩
  · refine IsOs.snoc (IsO.same _ _ _ ho hk2) l _ _ _ (IsOs.cur l cl _ _ _ (IsOs.same l (fun _ t _ cs bs h hb => IsO.same t cs bs h hb) _ _ _ h.os hk1) (fun q _ hq => ?_)) (fun q v hv => ?_)
    · rw [List.getElem?_append_left (by omega)]
    · rw [List.getElem?_append_right (by omega), show (0 + l.length) * 6 + q - cl.length = q from by omega]
      exact hv
  · refine List.nodup_append.2 ⟨h.nd, hn, fun x hx y hy => ?_⟩
    have h1 := (h.lt x hx).2
    have h2 := (hr y hy).1
    omega
  · intro b hm
    rcases List.mem_append.1 hm with hm | hm
    · have := h.lt b hm; omega
    · have := hr b hm; omega
  · intro b hm e
    rw [hv] at e
    injection e with e
    subst e
    rcases List.mem_append.1 hm with hm | hm
    · rcases hat with e | e
      · exact h.ne _ hm e
      · have := (h.lt _ hm).2; omega
    · have h2 := hr _ hm
      rcases hat with e | e
      · have := (hL _ e).2; omega
      · omega
/-- Such a row as a part of a value. -/
theorem RowO.part {B : Nat} {wr : World} {lv : Value} {j : Nat} {cl : List Value} {l : List Vt} {bs : List Nat} (h : RowO B wr lv j cl l bs) :
    ∃ la lc b2, lv = .slice la j lc ∧ (j ≤ lc ∧ lc ≤ maxLen) ∧ (la = none → lc = 0) ∧ ((l = [] ∧ b2 = []) ∨ ∃ lb cur ty b3, la = some ⟨lb, 0, none⟩ ∧ b2 = lb :: b3 ∧ Block wr lb cur ty ∧ IsOs wr cur 0 l b3) ∧ b2.Nodup ∧ ∀ b ∈ b2, B ≤ b ∧ b < wr.heap.size := by
  obtain ⟨h1, h2⟩ := h.own
  rcases h2 with ⟨rfl, h3⟩ | ⟨g, cap, cur, rfl, hb, hh, hn, hm, hs, ht⟩
  · have hl : l = [] := List.eq_nil_of_length_eq_zero (by rw [h.len]; exact h3)
    refine ⟨none, 0, [], by rw [h3], ⟨by omega, by unfold maxLen; omega⟩, fun _ => rfl, .inl ⟨hl, rfl⟩, List.nodup_nil, by simp⟩
  · refine ⟨some ⟨g, 0, none⟩, cap, g :: bs, rfl, ⟨hn, hm⟩, (fun e => by cases e), .inr ⟨g, cur.toList, 26, bs, rfl, rfl, by unfold Block; simpa using hh, ?_⟩, List.nodup_cons.2 ⟨fun hm => h.ne g hm rfl, h.nd⟩, ?_⟩
    · refine IsOs.cur l cl _ _ _ h.os (fun q _ hq => ?_)
      rw [← ht, List.getElem?_take_of_lt (by rw [← h.len]; omega)]
    · intro b hm2
      rcases List.mem_cons.1 hm2 with rfl | hm2
      · exact ⟨hb, (Array.getElem?_eq_some_iff.1 hh).1⟩
      · exact h.lt b hm2
def RCopySaid (t : Vt) : Prop := ∀ (cs : List Value) (B : Nat) (w : World), IsV B w cs t → B ≤ w.heap.size → wtV t ≤ 1048576 → Calls Try.prog 10 #[.agg cs.toArray] w (CopyP t w)
set_option maxRecDepth 100000 in
set_option maxHeartbeats 4000000 in
theorem rcopy_any (t : Vt) : RCopySaid t := by
  refine t.down (p := RCopySaid) fun k b i s l ks ih cs B w hV hB hwt => ?_
  unfold IsV at hV
  obtain ⟨la, lc, ka, kc, rfl, hk64, hi64, ⟨hlc, hlm⟩, ⟨hkc, hkm⟩, hlz, hkz, hK, hL⟩ := hV
  have hln : l.length ≤ 1048576 := by have h1 := wtVs_len l; simp only [wtV] at hwt; omega
  have hkn : ks.length ≤ 1099511627776 := by have h1 := keys_len ks; simp only [wtV] at hwt; omega
  have IH := Lib.hid ih
  have HLs := Lib.hid hL
  have HKs := Lib.hid hK
  have HWT := Lib.hid hwt
  clear ih hL hK hwt
  show Calls Try.prog 10 #[.agg #[.int .i64 k, .bool b, .int .i64 i, .string s, .slice la l.length lc, .slice ka ks.length kc]] w _
  obtain ⟨iS, siS, szS, s1S, s2S⟩ := info_parts Try.infoStr
  obtain ⟨iV, siV, szV, s1V, s2V⟩ := info_parts Try.infoVal
  obtain ⟨W0, hW0⟩ : ∃ W0, (w.alloc (.cells #[.int .i64 k, .bool b, .int .i64 i, .string s, .slice la l.length lc, .slice ka ks.length kc] 26)).alloc (.cells zeroC.toArray 26) = W0 := ⟨_, rfl⟩
  have hBW : Below w.heap.size w W0 := by rw [← hW0]; exact ((Below.refl _ _).alloc (Nat.le_refl _) _).alloc (by simp) _
  have hX0 : Block W0 w.heap.size [.int .i64 k, .bool b, .int .i64 i, .string s, .slice la l.length lc, .slice ka ks.length kc] 26 := by rw [← hW0]; exact (Block.new w _ _).alloc _
  have hX1 : Block W0 (w.heap.size + 1) zeroC 26 := by
    rw [← hW0]
    have := Block.new (w.alloc (.cells #[.int .i64 k, .bool b, .int .i64 i, .string s, .slice la l.length lc, .slice ka ks.length kc] 26)) zeroC 26
    simpa using this
  have hz0 : w.heap.size + 2 = W0.heap.size := by rw [← hW0]; simp
  have HX0 := Lib.hid hX0
  have HX1 := Lib.hid hX1
  have HBW := Lib.hid hBW
  have HZ0 := Lib.hid hz0
  have HW0 := Lib.hid hW0
  clear hX0 hX1 hBW hz0 hW0
  go_enter Try.func10, Try.ntmps10
  go_wp2_with fail
  change Code.wp _ _ _ _ ((w.alloc (.cells #[.int .i64 k, .bool b, .int .i64 i, .string s, .slice la l.length lc, .slice ka ks.length kc] 26)).alloc (.cells zeroC.toArray 26))
  rw [HW0.out]
  go_loopw [3, 4] (fun lv iv wr => ∃ (j : Nat) (a : Option Addr) (c : Nat) (cl : List Value) (bs : List Nat), lv = .slice a j c ∧ iv = .int .i64 j ∧ j ≤ l.length ∧ Hid (RowO W0.heap.size wr (.slice a j c) j cl (l.take j) bs) ∧ Hid (Below W0.heap.size W0 wr)) (fun _ iv _ => l.length - (intOf iv).toNat)
  case atStart => exact ⟨0, none, 0, [], [], rfl, rfl, Nat.zero_le _, Lib.hid (RowO.nil _ _), Lib.hid (Below.refl _ _)⟩
  case round =>
    obtain ⟨j, a, c, cl, bs, rfl, rfl, hj, HRO, HBR⟩ := hrel
    have c4 := (HX0.out.below HBR.out HX0.out.lt).cell (i := 4) rfl
    by_cases hlt : j < l.length
    · have hlt' : (j : Int) < l.length := by omega
      have hj0 : (0 : Int) ≤ (j : Int) := by omega
      have hzr := HBR.out.size
      have hbr : Below w.heap.size w wr := HBW.out.trans (HBR.out.mono (by have := HZ0.out; omega))
      obtain ⟨t, ht⟩ := get_some hlt
      obtain ⟨eb, eo, k2, b2, i2, s2, l2, ks2, la2, lc2, ka2, kc2, rfl, rfl, heb, ⟨g0, g1, g2, g3, g4, g5⟩, hVt⟩ := (HLs.out.below hbr hB).at ht
      have HCO := Lib.hid (IH.out j _ ht _ B wr hVt (Nat.le_trans hB hbr.size) (by have h1 := wtVs_get ht; have := HWT.out; simp only [wtV] at this h1 ⊢; omega))
      have HTJ := Lib.hid ht
      clear ht hVt hbr
      go_wp2_with fail
      refine HCO.out.mono ?_
      rintro e w2 ⟨cs', bs', rfl, hb2, ho2, hn2, hbs2⟩
      have ho3 := ho2
      unfold IsO at ho3
      obtain ⟨la3, lc3, ka3, kc3, c1, c2, rfl, -, -, -⟩ := ho3
      have HRO2 := Lib.hid (HRO.out.same hb2)
      have HB2 := Lib.hid hb2
      have HO2 := Lib.hid ho2
      have HN2 := Lib.hid (show _ ∧ _ from ⟨hn2, hbs2⟩)
      have hz2 : W0.heap.size ≤ w2.heap.size := Nat.le_trans hzr hb2.size
      clear hb2 ho2 hn2 hbs2 g0 g1 g2 g3 g4 g5 c4
      go_wp2_with (at_builtin; refine wpList_append_lies _ rfl _ _ 23 rfl W0.heap.size 26 iV _ 6 88 Try.underlying23 siV szV s1V s2V rfl (by omega) (.slice a j c) j cl rfl (HRO2.out.own.alloc _) ⟨w2.heap.size, 0, none⟩ 1 1 [.int .i64 k2, .bool b2, .int .i64 i2, .string s2, .slice la3 l2.length lc3, .slice ka3 ks2.length kc3] rfl rfl (World.news_of_block (cs := #[.int .i64 k2, .bool b2, .int .i64 i2, .string s2, .slice la3 l2.length lc3, .slice ka3 ks2.length kc3]) (t := 26) (fr := (0, 0)) (Block.new w2 [.int .i64 k2, .bool b2, .int .i64 i2, .string s2, .slice la3 l2.length lc3, .slice ka3 ks2.length kc3] 26)) (by simp [Value.oneCell']) (by omega) (by unfold maxLen; omega) (by omega) (by simp; omega) (w2.heap.size + 1) (by simp) ?_)
      intro g cap w3 hown hgrow hat hlt3
      have HROS := Lib.hid (RowO.step HRO.out HB2.out hzr HO2.out HN2.out.1 HN2.out.2 hown hgrow rfl hat)
      have HB3 : Hid (Below W0.heap.size W0 w3) := Lib.hid (Below.grown ((HBR.out.trans (HB2.out.mono hzr)).alloc hz2 _) hgrow (by simp; omega) (fun k e => (HRO2.out.own.lt k e).1))
      clear hown hgrow hat hlt3
      go_wp2_with fail
      go_roundw
      case rel => exact ⟨j + 1, _, _, _, _, rfl, by go_num, by omega, Lib.hid (by rw [take_succ_some HTJ.out]; exact HROS.out), HB3⟩
      case measure => simp [intOf]; omega
    · have hlt' : ¬ (j : Int) < l.length := by omega
      have hjl : j = l.length := by omega
      have HRN : Hid (RowO W0.heap.size wr (.slice a j c) j cl l bs) := Lib.hid (by have := HRO.out; rwa [List.take_of_length_le (by omega)] at this)
      obtain ⟨la9, lc9, b29, hv9, hc9, hz9, hp9, hn9, hr9⟩ := HRN.out.part
      injection hv9 with e1 e2 e3
      subst e1 e3
      have X0r := HX0.out.below HBR.out HX0.out.lt
      have X1r := HX1.out.below HBR.out HX1.out.lt
      have hzr := HBR.out.size
      have hbr : Below w.heap.size w wr := HBW.out.trans (HBR.out.mono (by have := HZ0.out; omega))
      have c5 := X0r.cell (i := 5) rfl
      have HKr := Lib.hid (HKs.out.below hbr hB)
      have HPP := Lib.hid (show _ ∧ _ ∧ _ ∧ _ ∧ _ from ⟨hc9, hz9, hp9, hn9, hr9⟩)
      have HBr := Lib.hid hbr
      have HX0r := Lib.hid X0r
      have HX1r := Lib.hid X1r
      have HJL := Lib.hid hjl
      clear hc9 hz9 hp9 hn9 hr9 X0r X1r hbr hjl
      go_wp2_with (at_builtin; refine append_cells rfl _ _ 22 rfl wr.heap.size 9 iS (.string ⟨#[]⟩) 16 Try.underlying22 siS szS s1S s2S rfl (.slice none 0 0) 0 [] rfl (World.ownsRow_nil _ _ _ _) ka ks.length kc B (ks.map Value.string) rfl hkz (by simp) HKr.out ?c2 ?c3 ?c4 ?c5 ?_)
      case c2 => intro q _; rfl
      case c3 => unfold maxLen; omega
      case c4 => omega
      intro v1 w5 hown5 hg5
      have hB5 : Below wr.heap.size wr w5 := (Below.refl _ _).grown hg5 (Nat.le_refl _) (fun k hk => by simp [Value.ownBlock] at hk)
      obtain ⟨ka', kc', bk, rfl, g1, g2, g3, g4, g5⟩ := OwnStr.of_own hown5
      have X05 := HX0r.out.below hB5 HX0r.out.lt
      have X15 := HX1r.out.below hB5 HX1r.out.lt
      have HB5 := Lib.hid hB5
      have HG := Lib.hid (show _ ∧ _ ∧ _ ∧ _ ∧ _ from ⟨g1, g2, g3, g4, g5⟩)
      have Y0 := (X05.set 4 (.slice a j c)).set 5 (.slice ka' ks.length kc')
      have Y1 := (X15.set_other (a := ⟨w.heap.size, 4, none⟩) (by simp) (.slice a j c)).set_other (a := ⟨w.heap.size, 5, none⟩) (by simp) (.slice ka' ks.length kc')
      obtain ⟨w6, hw6⟩ : ∃ w6, (w5.setCell ⟨w.heap.size, 4, none⟩ (.slice a j c)).setCell ⟨w.heap.size, 5, none⟩ (.slice ka' ks.length kc') = w6 := ⟨_, rfl⟩
      have f4 := X05.free 4
      have f5 := X05.free 5
      have d4 := X05.cell (i := 4) rfl
      have d5 := X05.cell (i := 5) rfl
      have HY0 := Lib.hid Y0
      have HY1 := Lib.hid Y1
      have HW6 := Lib.hid hw6
      have h16 : Block w6 (w.heap.size + 1) zeroC 26 := by rw [← hw6]; exact Y1
      have h06 : Block w6 w.heap.size [.int .i64 k, .bool b, .int .i64 i, .string s, .slice a j c, .slice ka' ks.length kc'] 26 := by rw [← hw6]; exact Y0
      have H16 := Lib.hid h16
      have x0 := h06.cell (i := 0) rfl
      have x1 := h06.cell (i := 1) rfl
      have x2 := h06.cell (i := 2) rfl
      have x3 := h06.cell (i := 3) rfl
      have x4 := h06.cell (i := 4) rfl
      have x5 := h06.cell (i := 5) rfl
      have z0 := h16.cell (i := 0) rfl
      have z1 := h16.cell (i := 1) rfl
      have z2 := h16.cell (i := 2) rfl
      have z3 := h16.cell (i := 3) rfl
      have z4 := h16.cell (i := 4) rfl
      have z5 := h16.cell (i := 5) rfl
      have n0 := h16.free 0
      have n1 := h16.free 1
      have n2 := h16.free 2
      have n3 := h16.free 3
      have n4 := h16.free 4
      have n5 := h16.free 5
      obtain ⟨q0, q1, q2, q3, q4, q5⟩ := six_cells h16 (.int .i64 k) (.bool b) (.int .i64 i) (.string s) (.slice a j c) (.slice ka' ks.length kc')
      rw [← hw6] at x0 x1 x2 x3 x4 x5 z0 z1 z2 z3 z4 z5 n0 n1 n2 n3 n4 n5 q0 q1 q2 q3 q4 q5
      clear hown5 hg5 hB5 g1 g2 g3 g4 g5 X05 X15 Y0 Y1 c4 c5 hw6 h16 h06
      go_wp2_with fail
      refine bodyPost_ret (by simp [results, Try.results10, go_sem, q0, q1, q2, q3, q4, q5]; rfl) rfl ?_
      rw [HW6.out]
      obtain ⟨g1, g2, g3, g4, g5⟩ := HG.out
      obtain ⟨hc9, hz9, hp9, hn9, hr9⟩ := HPP.out
      have hz6 : w6.heap.size = w5.heap.size := by rw [← HW6.out]; simp [World.setCell]
      have hzr5 := HB5.out.size
      have hW0 := HZ0.out
      have hb56 : ∀ q, w.heap.size + 1 < q → w6.heap[q]? = w5.heap[q]? := fun q hq => by
        rw [← HW6.out, Below.heap_setCell _ _ _ _ (by show q ≠ w.heap.size; omega), Below.heap_setCell _ _ _ _ (by show q ≠ w.heap.size; omega)]
      obtain ⟨w7, hw7⟩ : ∃ w7, set6 w6 (w.heap.size + 1) 0 (.int .i64 k) (.bool b) (.int .i64 i) (.string s) (.slice a j c) (.slice ka' ks.length kc') = w7 := ⟨_, rfl⟩
      show CopyP _ w _ (set6 w6 (w.heap.size + 1) 0 (.int .i64 k) (.bool b) (.int .i64 i) (.string s) (.slice a j c) (.slice ka' ks.length kc'))
      have hz7 : w7.heap.size = w5.heap.size := by rw [← hw7, set6_size, hz6]
      have hb57 : ∀ q, w.heap.size + 1 < q → w7.heap[q]? = w5.heap[q]? := fun q hq => by rw [← hw7, set6_other _ _ _ _ _ _ _ _ _ _ (by omega), hb56 q hq]
      have hbr7 : ∀ q, w.heap.size + 1 < q → q < wr.heap.size → w7.heap[q]? = wr.heap[q]? := fun q hq hq2 => by rw [hb57 q hq, HB5.out.block q hq2]
      have hB7 : Below w.heap.size w w7 := by
        rw [← hw7, ← HW6.out]
        exact set6_below (((HBr.out.trans (HB5.out.mono HBr.out.size)).setCell (Nat.le_refl _) _).setCell (Nat.le_refl _) _) _ _ (by omega) _ _ _ _ _ _
      rw [hw7]
      have hjl := HJL.out
      refine ⟨[.int .i64 k, .bool b, .int .i64 i, .string s, .slice a j c, .slice ka' ks.length kc'], bk ++ b29, rfl, hB7, ?_, ?_, ?_⟩
      · unfold IsO
        refine ⟨a, c, ka', kc', bk, b29, by rw [hjl], ⟨hk64, hi64, ⟨by omega, by have := hc9.2; unfold maxLen at this; omega⟩, ⟨g5.1, by have := g5.2; unfold maxLen at this; omega⟩, hz9, g4⟩, rfl, g1.same fun q hq => hb57 q (by have := (g2 q hq).1; omega), ?_⟩
        rcases hp9 with h | ⟨lb, cur, ty, b3, e1, e2, e3, e4⟩
        · exact .inl h
        · have hlb := hr9 lb (by rw [e2]; simp)
          refine .inr ⟨lb, cur, ty, b3, e1, e2, e3.of_heap (hbr7 lb (by omega) hlb.2), IsOs.same l (fun _ t _ cs bs h hb => IsO.same t cs bs h hb) _ _ _ e4 fun q hq => ?_⟩
          have := hr9 q (by rw [e2]; simp [hq])
          exact hbr7 q (by omega) this.2
      · refine List.nodup_append.2 ⟨g3, hn9, fun x hx y hy => ?_⟩
        have h1 := (g2 x hx).1
        have h2 := (hr9 y hy).2
        omega
      · intro q hq
        rw [hz7]
        rcases List.mem_append.1 hq with hq | hq
        · have := g2 q hq; omega
        · have := hr9 q hq; omega
end Go.Proofs.Ytdkgjbjlpofieaa

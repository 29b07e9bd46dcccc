/- Layer 3: the contract of value.Copy, over trees. Conditions: the value is small. -/
import Derived.Test.YtdkgjbjlpofieaaCopyP
import Derived.Handy
namespace Go.Proofs.Ytdkgjbjlpofieaa
open Go.RowKit
set_option linter.unusedSimpArgs false
set_option linter.unusedVariables false

theorem Try.infoVal : (Try.prog.info? 26).map (fun i => (i.zero, i.size, i.bytes)) = some (some (.agg #[.int .i64 0, .bool false, .int .i64 0, .string ⟨#[]⟩, .slice none 0 0, .slice none 0 0]), 6, 88) := by kernel_rfl
theorem keys_len (ks : List ByteArray) : ks.length ≤ (ks.map fun k => k.size + 1).sum := by
  induction ks with
  | nil => simp
  | cons x xs ih => simp; omega
def CopySaid (t : Vt) : Prop := ∀ (cs : List Value) (B : Nat) (w : World), IsV B w cs t → B ≤ w.heap.size → wtV t ≤ 1048576 → Calls Try.prog 18 #[.agg cs.toArray] w (CopyP t w)
set_option maxRecDepth 100000 in
set_option maxHeartbeats 4000000 in
theorem copy_any (t : Vt) : CopySaid t := by
  refine t.down (p := CopySaid) fun k b i s l ks ih cs B w hV hB hwt => ?_
  unfold IsV at hV
  obtain ⟨la, lc, ka, kc, rfl, hk64, hi64, ⟨hlc, hlm⟩, ⟨hkc, hkm⟩, hlz, hkz, hK, hL⟩ := hV
  have hln : l.length ≤ 1048576 := by have h1 := wtVs_len l; simp only [wtV] at hwt; omega
  have hkn : ks.length ≤ 1099511627776 := by have h1 := keys_len ks; simp only [wtV] at hwt; omega
  have IH := Lib.hid ih
  have HLs := Lib.hid hL
  have HKs := Lib.hid hK
  clear ih hL hK
  show Calls Try.prog 18 #[.agg #[.int .i64 k, .bool b, .int .i64 i, .string s, .slice la l.length lc, .slice ka ks.length kc]] w _
  have HB0 := Lib.hid (((Below.refl w.heap.size w).alloc (Nat.le_refl _) (.cells #[.int .i64 k, .bool b, .int .i64 i, .string s, .slice la l.length lc, .slice ka ks.length kc] 26)))
  obtain ⟨i0, hi0, hz0, hz1, hz2⟩ := info_parts Try.infoVal
  obtain ⟨Z, hZ, hmk⟩ : ∃ Z : List Value, Z.length = l.length * 6 ∧ ∀ w : World, (Instr.makeSlice 23 (.int .i64 (l.length : Int)) (.int .i64 (l.length : Int))).run Try.prog w = .ok (.slice (some ⟨w.heap.size, 0, none⟩) l.length l.length) (w.alloc (.cells Z.toArray 26)) := by
    refine ⟨(madeCells (Value.agg #[.int .i64 0, .bool false, .int .i64 0, .string ⟨#[]⟩, .slice none 0 0, .slice none 0 0]).cells (l.length * 6)).toList, by simp [size_madeCells], fun w => ?_⟩
    have hr := run_make (P := Try.prog) w 23 26 i0 _ Try.underlying23 hi0 hz0 .i64 .i64 l.length l.length (by omega) (Int.le_refl _) (by rw [hz2]; omega) (by omega)
    rw [hz1] at hr
    simpa using hr
  obtain ⟨RC, hr1, hr2, hr3, hr4⟩ := row_cells l 0 HLs.out
  have hsz : (Try.prog.info? 26).map (·.size) = some 6 := by kernel_rfl
  go_enter Try.func18, Try.ntmps18
  go_wp2_with (with_reducible refine wpList_copy_sized rfl _ _ 23 23 rfl 26 Try.underlying23 6 hsz (some ⟨w.heap.size + 2, 0, none⟩) la l.length l.length l.length lc rfl rfl (w.heap.size + 2) 0 Z 26 ?cg RC l.length (by simp) hr1 ?cp ?cf hr2 (w.heap.size + 2) _ (Below.refl _ _) (Nat.le_refl _) ?_)
  case cg =>
    have h := Block.new ((w.alloc (.cells #[.int .i64 k, .bool b, .int .i64 i, .string s, .slice la l.length lc, .slice ka ks.length kc] 26)).alloc (.cells #[.int .i64 0, .bool false, .int .i64 0, .string ⟨#[]⟩, .slice none 0 0, .slice none 0 0] 26)) Z 26
    unfold Block at h
    simpa using h
  case cp =>
    intro hpos
    obtain ⟨b', off, rfl, hb', hc'⟩ := hr4 (by rintro rfl; simp at hpos)
    refine ⟨_, rfl, fun j v hv => ?_⟩
    have h1 := hc' j v hv
    rw [Nat.zero_mul, Nat.zero_add] at h1
    rw [addr_add, ((HB0.out.alloc (by simp) _).alloc (by simp; omega) _).cell (by show b' < w.heap.size; omega)]
    exact h1
  case cf => omega
  intro w1 hw1 hb1
  have hsp : splice Z 0 RC = RC := by unfold splice; simp [List.drop_of_length_le (show Z.length ≤ RC.length by omega)]
  rw [hsp] at hw1
  have HW1 : Hid (Block w1 (w.heap.size + 2) RC 26) := Lib.hid hw1.out
  have HB1 := Lib.hid hb1
  clear hw1 hb1 hsp hmk
  obtain ⟨G, hG⟩ : ∃ G, w.heap.size + 1 + 1 = G := ⟨_, rfl⟩
  have HG := Lib.hid hG
  go_wp2_with fail
  rw [hG]
  clear hG
  go_loopw [15] (fun iv wr => ∃ (j : Nat) (cur : List Value) (bs : List Nat), iv = .int .i64 j ∧ j ≤ l.length ∧ Hid (Block wr (w.heap.size + 2) cur 26) ∧ Hid (cur.length = l.length * 6) ∧ Hid (IsOs wr cur 0 (l.take j) bs) ∧ Hid (bs.Nodup ∧ ∀ b ∈ bs, w.heap.size + 3 ≤ b ∧ b < wr.heap.size) ∧ Hid (∀ q, j * 6 ≤ q → cur[q]? = RC[q]?) ∧ Hid (Below (w.heap.size + 2) (((w.alloc (.cells #[.int .i64 k, .bool b, .int .i64 i, .string s, .slice la l.length lc, .slice ka ks.length kc] 26)).alloc (.cells #[.int .i64 0, .bool false, .int .i64 0, .string ⟨#[]⟩, .slice none 0 0, .slice none 0 0] 26)).alloc (.cells Z.toArray 26)) wr)) (fun iv _ => l.length - (intOf iv).toNat)
  case atStart => exact ⟨0, RC, [], rfl, Nat.zero_le _, HW1, Lib.hid hr1, Lib.hid (by unfold IsOs; rfl), Lib.hid ⟨by simp, by simp⟩, Lib.hid (fun _ _ => rfl), HB1⟩
  case round =>
    obtain ⟨j, cur, bs, rfl, hj, HCUR, HCL, HOS, HND, HRC, HBW⟩ := hrel
    have HBR : Hid (Below w.heap.size w wr) := Lib.hid (((HB0.out.alloc (by simp) _).alloc (by simp; omega) _).trans (HBW.out.mono (by omega)))
    have hz : w.heap.size + 3 ≤ wr.heap.size := by have := HBW.out.size; simpa using this
    by_cases hlt : j < l.length
    · have hlt' : (j : Int) < l.length := by omega
      have hj0 : (0 : Int) ≤ (j : Int) := by omega
      obtain ⟨t, ht⟩ := get_some hlt
      obtain ⟨cs, hc6, hVt, hcq⟩ := hr3 j t ht
      have hwtj : wtV t ≤ 1048576 := by have h1 := wtVs_get ht; simp only [wtV] at hwt; omega
      have HVt := Lib.hid (IsV.below HBR.out hB _ _ hVt)
      obtain ⟨k2, b2, i2, s2, l2, ks2⟩ := t
      unfold IsV at hVt
      obtain ⟨la2, lc2, ka2, kc2, rfl, -⟩ := hVt
      have hcell : ∀ q v, [Value.int .i64 k2, .bool b2, .int .i64 i2, .string s2, .slice la2 l2.length lc2, .slice ka2 ks2.length kc2][q]? = some v → wr.cell? ⟨G, j * 6 + q, none⟩ = some v := fun q v hv => (by rw [← HG.out]; exact HCUR.out.cell (by rw [HRC.out _ (by omega)]; exact hcq q v hv))
      have HRQ := Lib.hid (fun q v (hv : [Value.int .i64 k2, .bool b2, .int .i64 i2, .string s2, .slice la2 l2.length lc2, .slice ka2 ks2.length kc2][q]? = some v) => (HRC.out _ (by omega)).trans (hcq q v hv))
      have g0 := hcell 0 _ rfl
      have g1 := hcell 1 _ rfl
      have g2 := hcell 2 _ rfl
      have g3 := hcell 3 _ rfl
      have g4 := hcell 4 _ rfl
      have g5 := hcell 5 _ rfl
      rw [Nat.add_zero] at g0
      have HCO := Lib.hid (IH.out j _ ht _ B wr HVt.out (Nat.le_trans hB HBR.out.size) hwtj)
      have HTJ := Lib.hid ht
      clear hcell hcq ht hwtj hc6
      go_wp2_with fail
      refine HCO.out.mono ?_
      rintro e w2 ⟨cs', bs', rfl, hb2, ho2, hn2, hbs2⟩
      have ho3 := ho2
      unfold IsO at ho3
      obtain ⟨la3, lc3, ka3, kc3, c1, c2, rfl, -, -, -⟩ := ho3
      have hB2 : Block w2 G cur 26 := by rw [← HG.out]; exact HCUR.out.below hb2 (by omega)
      have d0 := hB2.cell (HRQ.out 0 _ rfl)
      have d1 := hB2.cell (HRQ.out 1 _ rfl)
      have d2 := hB2.cell (HRQ.out 2 _ rfl)
      have d3 := hB2.cell (HRQ.out 3 _ rfl)
      have d4 := hB2.cell (HRQ.out 4 _ rfl)
      have d5 := hB2.cell (HRQ.out 5 _ rfl)
      have e0 := hB2.free (j * 6)
      have e1 := hB2.free (j * 6 + 1)
      have e2 := hB2.free (j * 6 + 2)
      have e3 := hB2.free (j * 6 + 3)
      have e4 := hB2.free (j * 6 + 4)
      have e5 := hB2.free (j * 6 + 5)
      rw [Nat.add_zero] at d0
      have HB2 := Lib.hid hB2
      have HBW2 := Lib.hid hb2
      have HO2 := Lib.hid ho2
      have HN2 := Lib.hid (show _ ∧ _ from ⟨hn2, hbs2⟩)
      clear hB2 hb2 ho2 hn2 hbs2 g0 g1 g2 g3 g4 g5
      go_wp2_with fail
      go_roundw
      case rel =>
        have hG : w.heap.size + 2 = G := HG.out
        have hcl := HCL.out
        refine ⟨j + 1, put6 cur (j * 6) (.int .i64 k2) (.bool b2) (.int .i64 i2) (.string s2) (.slice la3 l2.length lc3) (.slice ka3 ks2.length kc3), bs ++ bs', by go_num, by omega, Lib.hid (by rw [hG]; exact HB2.out.set6 (j * 6) (.int .i64 k2) (.bool b2) (.int .i64 i2) (.string s2) (.slice la3 l2.length lc3) (.slice ka3 ks2.length kc3)), Lib.hid (by rw [put6_len]; exact hcl), ?_, ?_, Lib.hid (fun q hq => by rw [put6_out _ _ _ _ _ _ _ _ q (by omega)]; exact HRC.out q (by omega)), Lib.hid (set6_below (HBW.out.trans (HBW2.out.mono (by omega))) G (j * 6) (by omega) (.int .i64 k2) (.bool b2) (.int .i64 i2) (.string s2) (.slice la3 l2.length lc3) (.slice ka3 ks2.length kc3))⟩
        · refine Lib.hid ?_
          rw [take_succ_some HTJ.out]
          have hs : ∀ b ∈ bs, (set6 w2 G (j * 6) (.int .i64 k2) (.bool b2) (.int .i64 i2) (.string s2) (.slice la3 l2.length lc3) (.slice ka3 ks2.length kc3)).heap[b]? = wr.heap[b]? := fun b hb => by
            have h1 := HND.out.2 b hb
            rw [set6_other _ _ _ _ _ _ _ _ _ _ (by omega)]
            exact HBW2.out.block b (by omega)
          have hs' : ∀ b ∈ bs', (set6 w2 G (j * 6) (.int .i64 k2) (.bool b2) (.int .i64 i2) (.string s2) (.slice la3 l2.length lc3) (.slice ka3 ks2.length kc3)).heap[b]? = w2.heap[b]? := fun b hb => by
            have h1 := HN2.out.2 b hb
            rw [set6_other _ _ _ _ _ _ _ _ _ _ (by omega)]
          have h1 := IsOs.same (l.take j) (fun _ t _ cs bs h hb => IsO.same t cs bs h hb) _ _ _ HOS.out hs
          have hlj : (l.take j).length = j := by simp; omega
          refine IsOs.snoc (IsO.same _ _ _ HO2.out hs') (l.take j) _ _ _ (IsOs.cur (l.take j) _ _ _ _ h1 (fun q _ hq => put6_out _ _ _ _ _ _ _ _ q (by rw [hlj] at hq; omega))) (fun q v hv => ?_)
          rw [hlj, Nat.zero_add]
          exact put6_in _ _ _ _ _ _ _ _ (by omega) q v hv
        · refine Lib.hid ⟨List.nodup_append.2 ⟨HND.out.1, HN2.out.1, fun x hx y hy => ?_⟩, fun b hb => ?_⟩
          · have h1 := HND.out.2 x hx
            have h2 := HN2.out.2 y hy
            omega
          · have hz2 := HBW2.out.size
            show _ ∧ b < (set6 w2 G (j * 6) (.int .i64 k2) (.bool b2) (.int .i64 i2) (.string s2) (.slice la3 l2.length lc3) (.slice ka3 ks2.length kc3)).heap.size
            rw [set6_size]
            rcases List.mem_append.1 hb with h | h
            · have h1 := HND.out.2 b h; omega
            · have h1 := HN2.out.2 b h; omega
      case measure => simp [intOf]; omega
    · have hlt' : ¬ (j : Int) < l.length := by omega
      have hjl : j = l.length := by omega
      have HOS2 : Hid (IsOs wr cur 0 l bs) := Lib.hid (by have := HOS.out; rwa [List.take_of_length_le (by omega)] at this)
      have hX := (((Block.new w [.int .i64 k, .bool b, .int .i64 i, .string s, .slice la l.length lc, .slice ka ks.length kc] 26).alloc (.cells #[.int .i64 0, .bool false, .int .i64 0, .string ⟨#[]⟩, .slice none 0 0, .slice none 0 0] 26)).alloc (.cells Z.toArray 26)).below HBW.out (by omega)
      have hZ := ((Block.new (w.alloc (.cells #[.int .i64 k, .bool b, .int .i64 i, .string s, .slice la l.length lc, .slice ka ks.length kc] 26)) [.int .i64 0, .bool false, .int .i64 0, .string ⟨#[]⟩, .slice none 0 0, .slice none 0 0] 26).alloc (.cells Z.toArray 26)).below HBW.out (by simp)
      have HX := Lib.hid hX
      have HZ : Hid (Block wr (w.heap.size + 1) [.int .i64 0, .bool false, .int .i64 0, .string ⟨#[]⟩, .slice none 0 0, .slice none 0 0] 26) := Lib.hid (by simpa using hZ)
      have x4 := hX.cell (i := 4) rfl
      have x5 := hX.cell (i := 5) rfl
      have y4 := hX.free 4
      clear hX hZ
      have HSX := Lib.hid (HX.out.set 4 (.slice (some ⟨G, 0, none⟩) l.length l.length))
      have HBS : Hid (Below w.heap.size w (wr.setCell ⟨w.heap.size, 4, none⟩ (.slice (some ⟨G, 0, none⟩) l.length l.length))) := Lib.hid (HBR.out.setCell (Nat.le_refl _) _)
      have HCL1 := Lib.hid (clone_any ks ka kc B _ (HKs.out.below HBS.out hB) (Nat.le_trans hB HBS.out.size) hkz hkn)
      clear hkz hlz
      go_wp2_with fail
      refine HCL1.out.mono ?_
      rintro e w3 ⟨ka', kc', bk, rfl, hb3, hos3, hbk3, hnd3, hkz3, hkc3⟩
      have hs3 : (wr.setCell ⟨w.heap.size, 4, none⟩ (.slice (some ⟨G, 0, none⟩) l.length l.length)).heap.size = wr.heap.size := by simp [World.setCell]
      have hX3 := HSX.out.below hb3 (by rw [hs3]; omega)
      have hZ3 : Block w3 (w.heap.size + 1) _ _ := (HZ.out.set_other (a := ⟨w.heap.size, 4, none⟩) (by simp) _).below hb3 (by rw [hs3]; omega)
      have t0 := hX3.cell (i := 0) rfl
      have t1 := hX3.cell (i := 1) rfl
      have t2 := hX3.cell (i := 2) rfl
      have t3 := hX3.cell (i := 3) rfl
      have t4 := hX3.cell (i := 4) rfl
      have t5 := hX3.cell (i := 5) rfl
      have f5 := hX3.free 5
      have z0 := hZ3.cell (i := 0) rfl
      have z1 := hZ3.cell (i := 1) rfl
      have z2 := hZ3.cell (i := 2) rfl
      have z3 := hZ3.cell (i := 3) rfl
      have z4 := hZ3.cell (i := 4) rfl
      have z5 := hZ3.cell (i := 5) rfl
      have n0 := hZ3.free 0
      have n1 := hZ3.free 1
      have n2 := hZ3.free 2
      have n3 := hZ3.free 3
      have n4 := hZ3.free 4
      have n5 := hZ3.free 5
      have HB3 := Lib.hid hb3
      have HS3 := Lib.hid hs3
      have HEND := Lib.hid (show OwnStr w3 ka' ks bk ∧ _ ∧ _ ∧ _ ∧ _ from ⟨hos3, hbk3, hnd3, hkz3, hkc3⟩)
      have hZ4 := hZ3.set_other (a := ⟨w.heap.size, 5, none⟩) (by simp) (.slice ka' ks.length kc')
      have h0 := hZ4.set 0 (.int .i64 k)
      have h1 := h0.set 1 (.bool b)
      have h2 := h1.set 2 (.int .i64 i)
      have h3 := h2.set 3 (.string s)
      have h4 := h3.set 4 (.slice (some ⟨G, 0, none⟩) l.length l.length)
      have h5 := h4.set 5 (.slice ka' ks.length kc')
      have q0 := h0.cell (i := 0) rfl
      have q1 := h1.cell (i := 1) rfl
      have q2 := h2.cell (i := 2) rfl
      have q3 := h3.cell (i := 3) rfl
      have q4 := h4.cell (i := 4) rfl
      have q5 := h5.cell (i := 5) rfl
      clear h0 h1 h2 h3 h4 h5 hZ4
      clear hb3 hos3 hbk3 hnd3 hkz3 hkc3 hX3 hZ3 x4 x5 y4 hs3
      go_wp2_with fail
      refine bodyPost_ret (by simp [results, Try.results18, go_sem, q0, q1, q2, q3, q4, q5]; rfl) rfl ?_
      have hG : w.heap.size + 2 = G := HG.out
      obtain ⟨e1, e2, e3, e4, e5, e6⟩ := HEND.out
      have hs3 := HS3.out
      have hb3 := HB3.out
      have hz3 : wr.heap.size ≤ w3.heap.size := by rw [← hs3]; exact hb3.size
      rw [hs3] at e2
      obtain ⟨wF, hwF⟩ : ∃ wF, set6 (w3.setCell ⟨w.heap.size, 5, none⟩ (.slice ka' ks.length kc')) (w.heap.size + 1) 0 (.int .i64 k) (.bool b) (.int .i64 i) (.string s) (.slice (some ⟨G, 0, none⟩) l.length l.length) (.slice ka' ks.length kc') = wF := ⟨_, rfl⟩
      show CopyP _ w _ (set6 (w3.setCell ⟨w.heap.size, 5, none⟩ (.slice ka' ks.length kc')) (w.heap.size + 1) 0 (.int .i64 k) (.bool b) (.int .i64 i) (.string s) (.slice (some ⟨G, 0, none⟩) l.length l.length) (.slice ka' ks.length kc'))
      have hFz : wF.heap.size = w3.heap.size := by rw [← hwF, set6_size]; simp [World.setCell]
      have hF3 : ∀ q, w.heap.size + 2 ≤ q → wF.heap[q]? = w3.heap[q]? := fun q hq => by
        rw [← hwF, set6_other _ _ _ _ _ _ _ _ _ _ (by omega), Below.heap_setCell _ _ _ _ (by show q ≠ w.heap.size; omega)]
      have hFr : ∀ q, w.heap.size + 2 ≤ q → q < wr.heap.size → wF.heap[q]? = wr.heap[q]? := fun q hq hq2 => by
        rw [hF3 q hq, hb3.block q (by rw [hs3]; exact hq2), Below.heap_setCell _ _ _ _ (by show q ≠ w.heap.size; omega)]
      have hBF : Below w.heap.size w wF := by
        rw [← hwF]
        exact set6_below (((HBS.out.trans (hb3.mono (by rw [hs3]; omega)))).setCell (Nat.le_refl _) _) _ _ (by omega) _ _ _ _ _ _
      rw [hwF]
      have hlbl : ∀ b ∈ bs, w.heap.size + 3 ≤ b ∧ b < wr.heap.size := HND.out.2
      refine ⟨[.int .i64 k, .bool b, .int .i64 i, .string s, .slice (some ⟨G, 0, none⟩) l.length l.length, .slice ka' ks.length kc'], bk ++ (G :: bs), rfl, hBF, ?_, ?_, ?_⟩
      · unfold IsO
        refine ⟨some ⟨G, 0, none⟩, l.length, ka', kc', bk, G :: bs, rfl, ⟨hk64, hi64, ⟨Nat.le_refl _, by omega⟩, ⟨e5, by have := e6; unfold maxLen at this; omega⟩, (fun h => by cases h), e4⟩, rfl, ?_, .inr ⟨G, cur, 26, bs, rfl, rfl, ?_, ?_⟩⟩
        · exact e1.same fun q hq => hF3 q (by have := (e2 q hq).1; omega)
        · exact (show Block wr G cur _ by rw [← hG]; exact HCUR.out).of_heap (hFr G (by omega) (by omega))
        · exact IsOs.same l (fun _ t _ cs bs h hb => IsO.same t cs bs h hb) _ _ _ HOS2.out fun q hq => hFr q (by have := (hlbl q hq).1; omega) (hlbl q hq).2
      · refine List.nodup_append.2 ⟨e3, List.nodup_cons.2 ⟨fun h => by have := (hlbl G h).1; omega, HND.out.1⟩, fun x hx y hy => ?_⟩
        have h1 := (e2 x hx).1
        rcases List.mem_cons.1 hy with rfl | hy
        · omega
        · have h2 := (hlbl y hy).2; omega
      · intro q hq
        rw [hFz]
        rcases List.mem_append.1 hq with hq | hq
        · have := e2 q hq; omega
        · rcases List.mem_cons.1 hq with rfl | hq
          · omega
          · have := hlbl q hq; omega
end Go.Proofs.Ytdkgjbjlpofieaa

/- Layer 3: the contract of the reference's Get. Conditions: the value is small; a map's keys and values are as many. -/
import Derived.Test.YtdkgjbjlpofieaaMapR
import Derived.Test.YtdkgjbjlpofieaaLawT
import Derived.Test.YtdkgjbjlpofieaaSpoil
import Derived.Test.YtdkgjbjlpofieaaRowO
namespace Go.Proofs.Ytdkgjbjlpofieaa
open Go.RowKit
set_option linter.unusedSimpArgs false
set_option linter.unusedVariables false
set_option maxRecDepth 100000

set_option maxHeartbeats 8000000 in
theorem rget_any (t : Vt) (key : ByteArray) (cs : List Value) (B : Nat) (w : World) (hV : IsV B w cs t) (hB : B ≤ w.heap.size) (hwt : wtV t ≤ 1048576) (hs : ∀ k b i s l ks, t = .mk k b i s l ks → k = 5 → ks.length = l.length) :
    Calls Try.prog 16 #[.agg cs.toArray, .string key] w (GetP (getV t key) w) := by
  obtain ⟨k, b, i, s, l, ks⟩ := t
  have hkl := hs k b i s l ks rfl
  clear hs
  unfold IsV at hV
  obtain ⟨la, lc, ka, kc, rfl, hk64, hi64, ⟨hlc, hlm⟩, ⟨hkc, hkm⟩, hlz, hkz, hK, hL⟩ := hV
  have hln : l.length ≤ 1048576 := by have h1 := wtVs_len l; simp only [wtV] at hwt; omega
  have hkn : ks.length ≤ 1048576 := by have h1 := keys_len ks; simp only [wtV] at hwt; omega
  have hwl : wtVs l ≤ 1048576 := by simp only [wtV] at hwt; omega
  show Calls Try.prog 16 #[.agg #[.int .i64 k, .bool b, .int .i64 i, .string s, .slice la l.length lc, .slice ka ks.length kc], .string key] w _
  obtain ⟨Q, hQ⟩ : ∃ Q, GetP (getV (.mk k b i s l ks) key) w = Q := ⟨_, rfl⟩
  have HQ := Lib.hid hQ
  rw [hQ]
  obtain ⟨W0, hW0⟩ : ∃ W0, (w.alloc (.cells #[.int .i64 k, .bool b, .int .i64 i, .string s, .slice la l.length lc, .slice ka ks.length kc] 26)).alloc (.cells #[.int .i64 0, .bool false, .int .i64 0, .string ⟨#[]⟩, .slice none 0 0, .slice none 0 0] 26) = W0 := ⟨_, rfl⟩
  have hBW : Below w.heap.size w W0 := by rw [← hW0]; exact ((Below.refl _ _).alloc (Nat.le_refl _) _).alloc (by simp) _
  have hX0 : Block W0 w.heap.size [.int .i64 k, .bool b, .int .i64 i, .string s, .slice la l.length lc, .slice ka ks.length kc] 26 := by rw [← hW0]; exact (Block.new w _ _).alloc _
  have hX1 : Block W0 (w.heap.size + 1) [.int .i64 0, .bool false, .int .i64 0, .string ⟨#[]⟩, .slice none 0 0, .slice none 0 0] 26 := by
    rw [← hW0]
    have := Block.new (w.alloc (.cells #[.int .i64 k, .bool b, .int .i64 i, .string s, .slice la l.length lc, .slice ka ks.length kc] 26)) [.int .i64 0, .bool false, .int .i64 0, .string ⟨#[]⟩, .slice none 0 0, .slice none 0 0] 26
    simpa using this
  have HBW := Lib.hid hBW
  have HX0 := Lib.hid hX0
  have HX1 := Lib.hid hX1
  have HK : Hid (StrRow B W0 ka ks) := Lib.hid (hK.below hBW hB)
  have HL := Lib.hid (hL.below hBW hB)
  have HBS : Hid (B ≤ W0.heap.size) := Lib.hid (Nat.le_trans hB hBW.size)
  have HWL := Lib.hid hwl
  have HW0 := Lib.hid hW0
  have c0 := hX0.cell (i := 0) rfl
  have c4 := hX0.cell (i := 4) rfl
  have c5 := hX0.cell (i := 5) rfl
  clear hBW hX0 hX1 hK hL hwl hW0 hQ hwt
  go_enter Try.func16, Try.ntmps16
  go_wp2_with fail
  (try rw [show w.heap.size + 1 + 1 = w.heap.size + 2 from rfl])
  rw [HW0.out]
  obtain ⟨nk, hnk⟩ : ∃ n, ks.length = n := ⟨_, rfl⟩
  have HNK := Lib.hid hnk
  obtain ⟨nl, hnl⟩ : ∃ n, l.length = n := ⟨_, rfl⟩
  have HNL := Lib.hid hnl
  rw [hnk] at hkl hkc hkn c5
  rw [hnl] at hkl hlc hln c4
  rw [hnk, hnl]
  clear hnk hnl
  have HKN : Hid (k = 5 → nk = nl) := Lib.hid hkl
  have hz0 : w.heap.size + 1 < W0.heap.size := HX1.out.lt
  have hEND : ∀ w', w' = W0 → getV (.mk k b i s l ks) key = none → GetP (getV (.mk k b i s l ks) key) w (.returned (.tuple #[.agg zeroC.toArray, .bool false])) (set6 w' (w.heap.size + 1) 0 (.int .i64 0) (.bool false) (.int .i64 0) (.string ⟨#[]⟩) (.slice none 0 0) (.slice none 0 0)) := fun w' e h => by
    subst e
    exact ⟨set6_below HBW.out (w.heap.size + 1) 0 (by omega) _ _ _ _ _ _, .inl ⟨h, rfl⟩⟩
  have HEND := Lib.hid hEND
  clear hEND hkl
  by_cases hk5 : k = 5
  · have HG5 : Hid (getV (.mk k b i s l ks) key = getL ks l key) := Lib.hid (by show (if k = 5 then getL ks l key else none) = _; rw [if_pos hk5])
    have hkn5 := HKN.out hk5
    have hk5' : (k == 5) = true := by simpa using hk5
    clear hk5
    go_loop [6] (fun iv => ∃ (j : Nat), iv = .int .i64 j ∧ j ≤ nk ∧ Hid (∀ (q : Nat) x, q < j → ks[q]? = some x → x ≠ key)) (fun iv => nk - (intOf iv).toNat)
    case atStart => exact ⟨0, rfl, Nat.zero_le _, Lib.hid (fun q x h => by omega)⟩
    case round =>
      obtain ⟨j, rfl, hj, HNE⟩ := hrel
      by_cases hjl : j < nk
      · have hjl' : (j : Int) < nk := by omega
        have hj0 : (0 : Int) ≤ j := by omega
        obtain ⟨x, hx⟩ := get_some (l := ks) (j := j) (by have := HNK.out; omega)
        obtain ⟨kb, ko, rfl, hkb, hkc2⟩ := HK.out.get hx
        have HX := Lib.hid hx
        clear hx
        obtain ⟨er, her⟩ : ∃ r, (x.toList == key.toList) = r := ⟨_, rfl⟩
        have hbe := ba_beq x key
        rw [her] at hbe
        cases er with
        | true =>
          have HXK : Hid (x = key) := Lib.hid (by simpa using hbe.symm)
          have hjn : (j : Int) < nl := by omega
          obtain ⟨t, ht⟩ := get_some (l := l) (j := j) (by have := HNL.out; omega)
          obtain ⟨eb, eo, k2, b2, i2, s2, l2, ks2, la2, lc2, ka2, kc2, rfl, rfl, heb, ⟨g0, g1, g2, g3, g4, g5⟩, hVt⟩ := HL.out.at ht
          have hwt2 : wtV (.mk k2 b2 i2 s2 l2 ks2) ≤ 1048576 := by have h1 := wtVs_get ht; have h2 := HWL.out; omega
          have HGV : Hid (getV (.mk k b i s l ks) key = some (.mk k2 b2 i2 s2 l2 ks2)) := Lib.hid (by
            rw [HG5.out]
            exact getL_some (by rw [HX.out, HXK.out]) ht HNE.out)
          have HCP := Lib.hid (rcopy_any _ _ B W0 hVt HBS.out hwt2)
          clear hVt ht hwt2 hbe
          go_wp2_with fail
          refine HCP.out.mono ?_
          rintro e w7 ⟨cs, bs, rfl, hb7, ho7, hn7, hr7⟩
          have ho := ho7
          unfold IsO at ho
          obtain ⟨la7, lc7, ka7, kc7, b71, b72, rfl, -, -, -, -⟩ := ho
          have HX17 := Lib.hid (HX1.out.below hb7 HX1.out.lt)
          have z0 := HX17.out.cell (i := 0) rfl
          have z1 := HX17.out.cell (i := 1) rfl
          have z2 := HX17.out.cell (i := 2) rfl
          have z3 := HX17.out.cell (i := 3) rfl
          have z4 := HX17.out.cell (i := 4) rfl
          have z5 := HX17.out.cell (i := 5) rfl
          have n0 := HX17.out.free 0
          have n1 := HX17.out.free 1
          have n2 := HX17.out.free 2
          have n3 := HX17.out.free 3
          have n4 := HX17.out.free 4
          have n5 := HX17.out.free 5
          obtain ⟨q0, q1, q2, q3, q4, q5⟩ := six_cells HX17.out (.int .i64 k2) (.bool b2) (.int .i64 i2) (.string s2) (.slice la7 l2.length lc7) (.slice ka7 ks2.length kc7)
          have HO7 := Lib.hid ho7
          have HR7 := Lib.hid (show _ ∧ _ from ⟨hn7, hr7⟩)
          have HB7 := Lib.hid hb7
          clear ho7 hn7 hr7 hb7 g0 g1 g2 g3 g4 g5 c0 c4 c5
          go_wp2_with fail
          refine bodyPost_ret (by simp [results, Try.results16, go_sem, q0, q1, q2, q3, q4, q5]; rfl) rfl ?_
          rw [← HQ.out]
          have hw6 : w.heap.size + 1 < W0.heap.size := HX1.out.lt
          refine ⟨set6_below (HBW.out.trans (HB7.out.mono HBW.out.size)) (w.heap.size + 1) 0 (by omega) _ _ _ _ _ _, .inr ⟨_, _, bs, HGV.out, rfl, ?_, HR7.out.1, fun b hb => ?_⟩⟩
          · refine IsO.same _ _ _ HO7.out fun b hb => ?_
            exact set6_other w7 (w.heap.size + 1) 0 _ _ _ _ _ _ b (by have := (HR7.out.2 b hb).1; omega)
          · have h1 := HR7.out.2 b hb
            refine ⟨by have := HBW.out.size; omega, ?_⟩
            show b < (set6 w7 (w.heap.size + 1) 0 _ _ _ _ _ _).heap.size
            rw [set6_size]
            exact h1.2
        | false =>
          have HXK : Hid (x ≠ key) := Lib.hid (by simpa using hbe.symm)
          clear hbe
          go_wp2_with fail
          go_round
          case rel =>
            refine ⟨j + 1, by go_num, by omega, Lib.hid (fun q y hq hy => ?_)⟩
            rcases Nat.lt_or_ge q j with h2 | h2
            · exact HNE.out q y h2 hy
            · rw [show q = j from by omega, HX.out] at hy; injection hy with hy; subst hy; exact HXK.out
          case measure => simp [intOf] <;> omega
      · have HN : Hid (getV (.mk k b i s l ks) key = none) := Lib.hid (by rw [HG5.out]; exact getL_none fun q x hx => HNE.out q x (by have := (List.getElem?_eq_some_iff.1 hx).1; have := HNK.out; omega) hx)
        have hnl : ¬ (j : Int) < nk := by omega
        have z0 := HX1.out.cell (i := 0) rfl
        have z1 := HX1.out.cell (i := 1) rfl
        have z2 := HX1.out.cell (i := 2) rfl
        have z3 := HX1.out.cell (i := 3) rfl
        have z4 := HX1.out.cell (i := 4) rfl
        have z5 := HX1.out.cell (i := 5) rfl
        have n0 := HX1.out.free 0
        have n1 := HX1.out.free 1
        have n2 := HX1.out.free 2
        have n3 := HX1.out.free 3
        have n4 := HX1.out.free 4
        have n5 := HX1.out.free 5
        obtain ⟨q0, q1, q2, q3, q4, q5⟩ := six_cells HX1.out (.int .i64 0) (.bool false) (.int .i64 0) (.string ⟨#[]⟩) (.slice none 0 0) (.slice none 0 0)
        go_wp2_with fail
        refine bodyPost_ret (by simp [results, Try.results16, go_sem, q0, q1, q2, q3, q4, q5]; rfl) rfl ?_
        rw [← HQ.out]
        exact HEND.out W0 rfl HN.out
  · have HN : Hid (getV (.mk k b i s l ks) key = none) := Lib.hid (by show (if k = 5 then getL ks l key else none) = _; rw [if_neg hk5])
    have hk5' : (k == 5) = false := by simpa using hk5
    go_loop [6] (fun iv => ∃ (j : Nat), iv = .int .i64 j ∧ j ≤ nk) (fun iv => nk - (intOf iv).toNat)
    case atStart => exact ⟨0, rfl, Nat.zero_le _⟩
    case round =>
      obtain ⟨j, rfl, hj⟩ := hrel
      obtain ⟨lr, hlr⟩ : ∃ r, decide ((j : Int) < nk) = r := ⟨_, rfl⟩
      have z0 := HX1.out.cell (i := 0) rfl
      have z1 := HX1.out.cell (i := 1) rfl
      have z2 := HX1.out.cell (i := 2) rfl
      have z3 := HX1.out.cell (i := 3) rfl
      have z4 := HX1.out.cell (i := 4) rfl
      have z5 := HX1.out.cell (i := 5) rfl
      have n0 := HX1.out.free 0
      have n1 := HX1.out.free 1
      have n2 := HX1.out.free 2
      have n3 := HX1.out.free 3
      have n4 := HX1.out.free 4
      have n5 := HX1.out.free 5
      obtain ⟨q0, q1, q2, q3, q4, q5⟩ := six_cells HX1.out (.int .i64 0) (.bool false) (.int .i64 0) (.string ⟨#[]⟩) (.slice none 0 0) (.slice none 0 0)
      by_cases hjl : j < nk
      · have hjl' : (j : Int) < nk := by omega
        go_wp2_with fail
        refine bodyPost_ret (by simp [results, Try.results16, go_sem, q0, q1, q2, q3, q4, q5]; rfl) rfl ?_
        rw [← HQ.out]
        exact HEND.out W0 rfl HN.out
      · have hnl : ¬ (j : Int) < nk := by omega
        go_wp2_with fail
        refine bodyPost_ret (by simp [results, Try.results16, go_sem, q0, q1, q2, q3, q4, q5]; rfl) rfl ?_
        rw [← HQ.out]
        exact HEND.out W0 rfl HN.out
end Go.Proofs.Ytdkgjbjlpofieaa

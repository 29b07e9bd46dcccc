/- Layer 5: the contract of the reference's Quoted. Written by genS16.py. Conditions: the text is no longer than 2^40. -/
import Derived.Test.YtangldmjgidgcaaS14
import Derived.Test.YtangldmjgidgcaaS15
import Derived.Deep.RegionLaw
import Derived.IntWalk
namespace Go.Proofs.Ytangldmjgidgcaa
open Go.RowKit Go.Shelf
set_option linter.unusedSimpArgs false
set_option linter.unusedVariables false

set_option maxRecDepth 1000000 in
set_option maxHeartbeats 4000000 in
theorem quoted_any (s : ByteArray) (p : Nat) (w : World) (hs : s.size ≤ 1099511627776) (hpb : p ≤ 1099511627776) :
    Calls Try.prog 24 #[.string s, .int .i64 p] w fun e w' => e = .returned (qdV s.size (qdS s.data.toList p)) ∧ Below w.heap.size w w' := by
  have HL : Hid (s.data.toList.length = s.size) := Lib.hid (by simp)
  obtain ⟨R, hR⟩ : ∃ R, qdV s.size (qdS s.data.toList p) = R := ⟨_, rfl⟩
  have HR := Lib.hid hR
  rw [hR]
  clear hR
  by_cases h2 : p < s.size
  rotate_left
  · have q2 : ¬ (p : Int) < s.size := by omega
    have HN : Hid (R = qdV s.size none) := Lib.hid (by rw [← HR.out]; unfold qdS; rw [HL.out, if_neg (by omega)])
    obtain rfl := HN.out
    go_enter Try.func24, Try.ntmps24
    go_wp2_with fail
    go_ret3
    exact ⟨rfl, Below.refl _ _⟩
  have q2 : (p : Int) < s.size := by omega
  have X0 : Hid (s[p].toNat = nb s.data.toList p) := Lib.hid (nb_get s p h2)
  by_cases a0 : s[p].toNat = 39
  rotate_left
  · have q0 : (((s[p].toNat : Nat) : Int) != 39) = true := by simp; omega
    have HN : Hid (R = qdV s.size none) := Lib.hid (by rw [← HR.out]; unfold qdS; rw [HL.out, if_neg (by have := X0.out; omega)])
    obtain rfl := HN.out
    go_enter Try.func24, Try.ntmps24
    go_wp2_with fail
    go_ret3
    exact ⟨rfl, Below.refl _ _⟩
  have q0 : (((s[p].toNat : Nat) : Int) != 39) = false := by simp; omega
  have HRb : Hid (R = qdV s.size (qd (s.data.toList.drop (p + 1)))) := Lib.hid (by
    rw [← HR.out]
    unfold qdS
    rw [HL.out, if_pos ⟨h2, by rw [← X0.out]; exact a0⟩])
  clear a0
  have q2d : decide (s.size ≤ p) = false := by simp; omega
  go_enter Try.func24, Try.ntmps24
  go_wp2_with fail
  obtain ⟨i0, hi, hz0, hz1, hz2⟩ := info_parts Try.info5
  have I0 := Lib.hid hi
  have I1 := Lib.hid hz0
  have I2 := Lib.hid hz1
  have I3 := Lib.hid hz2
  clear hi hz0 hz1 hz2 q0
  go_loopw [7, 8] (fun v k wr => ∃ (i : Nat) (d : List UInt8), k = .int .i64 i ∧ wr.ownsRow w.heap.size 5 1 v d.length (Lib.byteCells d) ∧ Below w.heap.size w wr ∧ Hid (DoneD s.data.toList (p + 1) i d)) (fun _ k _ => s.size - (intOf k).toNat)
  case atStart => exact ⟨p + 1, [], by go_num, World.ownsRow_nil _ _ _ _, Below.refl _ _, Lib.hid (doneD_zero _ _ (by rw [HL.out]; omega))⟩
  case round =>
    obtain ⟨i, d, rfl, hown, hbw, hd⟩ := hrel
    have hszr := hbw.size
    have HBW := Lib.hid hbw
    have HO := Lib.hid hown
    clear hbw hown
    have hil : i ≤ s.size := by have := hd.out.2.1; rw [HL.out] at this; exact this
    have hdl : d.length ≤ i := hd.out.2.2.1
    have HR1 := Lib.hid (fun k hk => (HO.out.lt k hk).1)
    by_cases hp : i < s.size
    · have hp' : (i : Int) < s.size := by omega
      have HLD : Hid ((s.data.toList.drop i).length = s.size - i) := Lib.hid (by rw [List.length_drop, HL.out])
      have HX0 : Hid (s[i].toNat = nb (s.data.toList.drop i) 0) := Lib.hid (by rw [nb_drop, Nat.add_zero]; exact nb_get s i hp)
      have hc : s[i].toNat < 256 := by have := s[i].toNat_lt; omega
      have UQ := Lib.hid (doneD_quote hd.out (by rw [HL.out]; exact hp))
      have UB := Lib.hid (doneD_bad hd.out (by rw [HL.out]; exact hp))
      have US := Lib.hid (doneD_sign hd.out (by rw [HL.out]; exact hp))
      have UN := Lib.hid (doneD_escN hd.out (by rw [HL.out]; exact hp))
      have UE := Lib.hid (@doneD_escS _ _ _ _ hd.out (by rw [HL.out]; exact hp))
      have HS := Lib.hid (sign_any s i wr (by omega) (by omega))
      have hsl := sg_le (l := s.data.toList.drop i)
      rw [HLD.out] at hsl
      have HSX := Lib.hid (extract_strOf s i (sg (s.data.toList.drop i)) (by omega))
      have HBD : Hid (bad (s.data.toList.drop i) ↔ (sg (s.data.toList.drop i) = 0 ∨ s[i].toNat < 32 ∨ s[i].toNat = 127)) := Lib.hid (by rw [HX0.out]; exact Iff.rfl)
      by_cases a39 : s[i].toNat = 39
      · have q39 : (((s[i].toNat : Nat) : Int) == 39) = true := by simp; omega
        have HU := Lib.hid (UQ.out (by rw [← HX0.out]; exact a39))
        have hcv := conv_own HO.out
        have hrl : ((s.size - (s.data.toList.drop (i + 1)).length : Nat) : Int) = i + 1 := by rw [List.length_drop, HL.out]; omega
        have HRL := Lib.hid hrl
        clear a39 hrl
        go_wp2_with fail
        refine HS.out.mono ?_
        rintro e w8 ⟨rfl, rfl⟩
        go_wp2_with fail
        go_ret3
        exact ⟨by rw [HRb.out, HU.out]; unfold qdV; dsimp only; rw [HRL.out]; rfl, HBW.out⟩
      have q39 : (((s[i].toNat : Nat) : Int) == 39) = false := by simp; omega
      have n39 : nb (s.data.toList.drop i) 0 ≠ 39 := by rw [← HX0.out]; exact a39
      have N39 := Lib.hid n39
      clear n39
      by_cases a1 : sg (s.data.toList.drop i) = 0
      · have q1 : ((sg (s.data.toList.drop i) : Int) == 0) = true := by simp; omega
        have HU := Lib.hid (UB.out N39.out (HBD.out.2 (.inl a1)))
        clear a1 hsl HSX
        go_wp2_with fail
        refine HS.out.mono ?_
        rintro e w8 ⟨rfl, rfl⟩
        go_wp2_with fail
        go_ret3
        exact ⟨by rw [HRb.out, HU.out]; rfl, HBW.out⟩
      have q1 : ((sg (s.data.toList.drop i) : Int) == 0) = false := by simp; omega
      by_cases a2 : s[i].toNat < 32
      · have q3 : (s[i].toNat : Int) < 32 := by omega
        have HU := Lib.hid (UB.out N39.out (HBD.out.2 (.inr (.inl a2))))
        go_wp2_with fail
        refine HS.out.mono ?_
        rintro e w8 ⟨rfl, rfl⟩
        go_wp2_with fail
        go_ret3
        exact ⟨by rw [HRb.out, HU.out]; rfl, HBW.out⟩
      have q3 : ¬ (s[i].toNat : Int) < 32 := by omega
      have q3d : decide ((s[i].toNat : Int) < 32) = false := by simp; omega
      by_cases a3 : s[i].toNat = 127
      · have q4 : (((s[i].toNat : Nat) : Int) == 127) = true := by simp; omega
        have HU := Lib.hid (UB.out N39.out (HBD.out.2 (.inr (.inr a3))))
        clear a3
        go_wp2_with fail
        refine HS.out.mono ?_
        rintro e w8 ⟨rfl, rfl⟩
        go_wp2_with fail
        go_ret3
        exact ⟨by rw [HRb.out, HU.out]; rfl, HBW.out⟩
      have q4 : (((s[i].toNat : Nat) : Int) == 127) = false := by simp; omega
      have NB := Lib.hid (show ¬ bad (s.data.toList.drop i) from fun h => by have := HBD.out.1 h; omega)
      by_cases a92 : s[i].toNat = 92
      rotate_left
      · have q5 : (((s[i].toNat : Nat) : Int) != 92) = true := by simp; omega
        have HU := Lib.hid (US.out N39.out NB.out (by rw [← HX0.out]; exact a92))
        have hsz3 : (s.extract i (i + sg (s.data.toList.drop i))).size ≤ 4 := by rw [HSX.out, strOf_size, List.length_take]; omega
        have HCC : Hid (Lib.strCells (s.extract i (i + sg (s.data.toList.drop i))) = Lib.byteCells ((s.data.toList.drop i).take (sg (s.data.toList.drop i)))) := Lib.hid (by rw [HSX.out]; rfl)
        have HCL : Hid ((s.extract i (i + sg (s.data.toList.drop i))).size = ((s.data.toList.drop i).take (sg (s.data.toList.drop i))).length) := Lib.hid (by rw [HSX.out, strOf_size])
        have HML : Hid (min (i + sg (s.data.toList.drop i)) s.size - i = ((s.data.toList.drop i).take (sg (s.data.toList.drop i))).length) := Lib.hid (by rw [List.length_take, HLD.out]; omega)
        generalize (s.data.toList.drop i).take (sg (s.data.toList.drop i)) = S at *
        generalize sg (s.data.toList.drop i) = m at *
        have p1 : (0 : Int) ≤ i := by omega
        have p2 : (i : Int) + m ≤ s.size := by omega
        go_wp2_with fail
        refine HS.out.mono ?_
        rintro e w8 ⟨rfl, rfl⟩
        go_wp2_with (at_builtin; refine Lib.wpList_append_own_string _ rfl _ _ 36 9 rfl w.heap.size 5 i0 Try.underlying36 Try.underlying9 I0.out I1.out I2.out I3.out u7 d.length (Lib.byteCells d) rfl HO.out _ rfl (by unfold maxLen; omega) (by omega) (by omega) ?_)
        intro v1 w1 hown1 hgrow _
        rw [HCC.out, HML.out] at hown1
        have HO1 : Hid (w1.ownsRow w.heap.size 5 1 v1 (d ++ S).length (Lib.byteCells (d ++ S))) := Lib.hid (by rw [List.length_append]; simpa [Lib.byteCells] using hown1)
        have HB1 : Hid (Below w.heap.size w w1) := Lib.hid (Below.grown HBW.out hgrow (by omega) (fun k hk => HR1.out _ hk))
        clear hown1 hgrow
        go_wp2_with fail
        go_roundw
        case rel => exact ⟨i + m, d ++ S, by go_num, HO1.out, HB1.out, HU⟩
        case measure => simp [intOf]; omega
      have q5 : (((s[i].toNat : Nat) : Int) != 92) = false := by simp; omega
      have A92 : Hid (nb (s.data.toList.drop i) 0 = 92) := Lib.hid (by rw [← HX0.out]; exact a92)
      clear a92
      by_cases b1 : i + 1 < s.size
      rotate_left
      · have q6 : ¬ (i : Int) + 1 < s.size := by omega
        have HU := Lib.hid (UN.out N39.out NB.out A92.out (escV_short (by rw [HLD.out]; omega)))
        go_wp2_with fail
        refine HS.out.mono ?_
        rintro e w8 ⟨rfl, rfl⟩
        go_wp2_with fail
        go_ret3
        exact ⟨by rw [HRb.out, HU.out]; rfl, HBW.out⟩
      have q6 : (i : Int) + 1 < s.size := by omega
      have HX1 : Hid (s[i + 1].toNat = nb (s.data.toList.drop i) 1) := Lib.hid (by rw [nb_drop]; exact nb_get s (i + 1) b1)
      have hc1 : s[i + 1].toNat < 256 := by have := s[i + 1].toNat_lt; omega
      have NL := Lib.hid (show ¬ (s.data.toList.drop i).length < 2 from by rw [HLD.out]; omega)
      by_cases c92 : s[i + 1].toNat = 92
      · have r92 : (((s[i + 1].toNat : Nat) : Int) == 92) = true := by simp; omega
        have HU := Lib.hid (UE.out N39.out NB.out A92.out (escV_q NL.out (by rw [← HX1.out]; omega)))
        have HXV : Hid (((UInt8.ofNat (nb (s.data.toList.drop i) 1)).toNat : Int) = s[i + 1].toNat) := Lib.hid (by rw [← HX1.out]; simp)
        generalize UInt8.ofNat (nb (s.data.toList.drop i) 1) = x at *
        clear c92
        go_wp2_with fail
        refine HS.out.mono ?_
        rintro e w8 ⟨rfl, rfl⟩
        go_wp2_with (at_builtin; refine wpList_append_own _ rfl _ _ 36 rfl w.heap.size 5 i0 (.int .u8 0) 1 1 Try.underlying36 I0.out I1.out I2.out I3.out rfl (by omega) u7 d.length (Lib.byteCells d) rfl (HO.out.alloc _) ⟨wr.heap.size, 0, none⟩ 1 1 [.int .u8 s[i + 1].toNat] rfl rfl (World.news_of_block (cs := #[.int .u8 s[i + 1].toNat]) (t := 5) (fr := (0, 0)) (heap_alloc_new _ _)) (by simp [Value.oneCell']) (by unfold maxLen; omega) (by omega) (by simp; omega) ?_)
        intro v1 w1 hown1 hgrow _
        have HO1 : Hid (w1.ownsRow w.heap.size 5 1 v1 (d ++ [x]).length (Lib.byteCells (d ++ [x]))) := Lib.hid (by rw [byteCells_snoc, HXV.out]; simpa using hown1)
        have HB1 : Hid (Below w.heap.size w w1) := Lib.hid (Below.grown (HBW.out.alloc (by omega) _) hgrow (by simp; omega) (fun k hk => HR1.out _ hk))
        clear hown1 hgrow
        go_wp2_with fail
        go_roundw
        case rel => exact ⟨i + 2, d ++ [x], by go_num, HO1.out, HB1.out, HU⟩
        case measure => simp [intOf]; omega
      have r92 : (((s[i + 1].toNat : Nat) : Int) == 92) = false := by simp; omega
      by_cases c39 : s[i + 1].toNat = 39
      · have r39 : (((s[i + 1].toNat : Nat) : Int) == 39) = true := by simp; omega
        have HU := Lib.hid (UE.out N39.out NB.out A92.out (escV_q NL.out (by rw [← HX1.out]; omega)))
        have HXV : Hid (((UInt8.ofNat (nb (s.data.toList.drop i) 1)).toNat : Int) = s[i + 1].toNat) := Lib.hid (by rw [← HX1.out]; simp)
        generalize UInt8.ofNat (nb (s.data.toList.drop i) 1) = x at *
        clear c39
        go_wp2_with fail
        refine HS.out.mono ?_
        rintro e w8 ⟨rfl, rfl⟩
        go_wp2_with (at_builtin; refine wpList_append_own _ rfl _ _ 36 rfl w.heap.size 5 i0 (.int .u8 0) 1 1 Try.underlying36 I0.out I1.out I2.out I3.out rfl (by omega) u7 d.length (Lib.byteCells d) rfl (HO.out.alloc _) ⟨wr.heap.size, 0, none⟩ 1 1 [.int .u8 s[i + 1].toNat] rfl rfl (World.news_of_block (cs := #[.int .u8 s[i + 1].toNat]) (t := 5) (fr := (0, 0)) (heap_alloc_new _ _)) (by simp [Value.oneCell']) (by unfold maxLen; omega) (by omega) (by simp; omega) ?_)
        intro v1 w1 hown1 hgrow _
        have HO1 : Hid (w1.ownsRow w.heap.size 5 1 v1 (d ++ [x]).length (Lib.byteCells (d ++ [x]))) := Lib.hid (by rw [byteCells_snoc, HXV.out]; simpa using hown1)
        have HB1 : Hid (Below w.heap.size w w1) := Lib.hid (Below.grown (HBW.out.alloc (by omega) _) hgrow (by simp; omega) (fun k hk => HR1.out _ hk))
        clear hown1 hgrow
        go_wp2_with fail
        go_roundw
        case rel => exact ⟨i + 2, d ++ [x], by go_num, HO1.out, HB1.out, HU⟩
        case measure => simp [intOf]; omega
      have r39 : (((s[i + 1].toNat : Nat) : Int) == 39) = false := by simp; omega
      by_cases c110 : s[i + 1].toNat = 110
      · have r110 : (((s[i + 1].toNat : Nat) : Int) == 110) = true := by simp; omega
        have HU := Lib.hid (UE.out N39.out NB.out A92.out (escV_n NL.out (by rw [← HX1.out]; omega)))
        have HXV : Hid ((((10 : UInt8)).toNat : Int) = 10) := Lib.hid rfl
        generalize (10 : UInt8) = x at HU HXV
        clear c110
        go_wp2_with fail
        refine HS.out.mono ?_
        rintro e w8 ⟨rfl, rfl⟩
        go_wp2_with (at_builtin; refine wpList_append_own _ rfl _ _ 36 rfl w.heap.size 5 i0 (.int .u8 0) 1 1 Try.underlying36 I0.out I1.out I2.out I3.out rfl (by omega) u7 d.length (Lib.byteCells d) rfl (HO.out.alloc _) ⟨wr.heap.size, 0, none⟩ 1 1 [.int .u8 10] rfl rfl (World.news_of_block (cs := #[.int .u8 10]) (t := 5) (fr := (0, 0)) (heap_alloc_new _ _)) (by simp [Value.oneCell']) (by unfold maxLen; omega) (by omega) (by simp; omega) ?_)
        intro v1 w1 hown1 hgrow _
        have HO1 : Hid (w1.ownsRow w.heap.size 5 1 v1 (d ++ [x]).length (Lib.byteCells (d ++ [x]))) := Lib.hid (by rw [byteCells_snoc, HXV.out]; simpa using hown1)
        have HB1 : Hid (Below w.heap.size w w1) := Lib.hid (Below.grown (HBW.out.alloc (by omega) _) hgrow (by simp; omega) (fun k hk => HR1.out _ hk))
        clear hown1 hgrow
        go_wp2_with fail
        go_roundw
        case rel => exact ⟨i + 2, d ++ [x], by go_num, HO1.out, HB1.out, HU⟩
        case measure => simp [intOf]; omega
      have r110 : (((s[i + 1].toNat : Nat) : Int) == 110) = false := by simp; omega
      by_cases c116 : s[i + 1].toNat = 116
      · have r116 : (((s[i + 1].toNat : Nat) : Int) == 116) = true := by simp; omega
        have HU := Lib.hid (UE.out N39.out NB.out A92.out (escV_t NL.out (by rw [← HX1.out]; omega)))
        have HXV : Hid ((((9 : UInt8)).toNat : Int) = 9) := Lib.hid rfl
        generalize (9 : UInt8) = x at HU HXV
        clear c116
        go_wp2_with fail
        refine HS.out.mono ?_
        rintro e w8 ⟨rfl, rfl⟩
        go_wp2_with (at_builtin; refine wpList_append_own _ rfl _ _ 36 rfl w.heap.size 5 i0 (.int .u8 0) 1 1 Try.underlying36 I0.out I1.out I2.out I3.out rfl (by omega) u7 d.length (Lib.byteCells d) rfl (HO.out.alloc _) ⟨wr.heap.size, 0, none⟩ 1 1 [.int .u8 9] rfl rfl (World.news_of_block (cs := #[.int .u8 9]) (t := 5) (fr := (0, 0)) (heap_alloc_new _ _)) (by simp [Value.oneCell']) (by unfold maxLen; omega) (by omega) (by simp; omega) ?_)
        intro v1 w1 hown1 hgrow _
        have HO1 : Hid (w1.ownsRow w.heap.size 5 1 v1 (d ++ [x]).length (Lib.byteCells (d ++ [x]))) := Lib.hid (by rw [byteCells_snoc, HXV.out]; simpa using hown1)
        have HB1 : Hid (Below w.heap.size w w1) := Lib.hid (Below.grown (HBW.out.alloc (by omega) _) hgrow (by simp; omega) (fun k hk => HR1.out _ hk))
        clear hown1 hgrow
        go_wp2_with fail
        go_roundw
        case rel => exact ⟨i + 2, d ++ [x], by go_num, HO1.out, HB1.out, HU⟩
        case measure => simp [intOf]; omega
      have r116 : (((s[i + 1].toNat : Nat) : Int) == 116) = false := by simp; omega
      by_cases c114 : s[i + 1].toNat = 114
      · have r114 : (((s[i + 1].toNat : Nat) : Int) == 114) = true := by simp; omega
        have HU := Lib.hid (UE.out N39.out NB.out A92.out (escV_r NL.out (by rw [← HX1.out]; omega)))
        have HXV : Hid ((((13 : UInt8)).toNat : Int) = 13) := Lib.hid rfl
        generalize (13 : UInt8) = x at HU HXV
        clear c114
        go_wp2_with fail
        refine HS.out.mono ?_
        rintro e w8 ⟨rfl, rfl⟩
        go_wp2_with (at_builtin; refine wpList_append_own _ rfl _ _ 36 rfl w.heap.size 5 i0 (.int .u8 0) 1 1 Try.underlying36 I0.out I1.out I2.out I3.out rfl (by omega) u7 d.length (Lib.byteCells d) rfl (HO.out.alloc _) ⟨wr.heap.size, 0, none⟩ 1 1 [.int .u8 13] rfl rfl (World.news_of_block (cs := #[.int .u8 13]) (t := 5) (fr := (0, 0)) (heap_alloc_new _ _)) (by simp [Value.oneCell']) (by unfold maxLen; omega) (by omega) (by simp; omega) ?_)
        intro v1 w1 hown1 hgrow _
        have HO1 : Hid (w1.ownsRow w.heap.size 5 1 v1 (d ++ [x]).length (Lib.byteCells (d ++ [x]))) := Lib.hid (by rw [byteCells_snoc, HXV.out]; simpa using hown1)
        have HB1 : Hid (Below w.heap.size w w1) := Lib.hid (Below.grown (HBW.out.alloc (by omega) _) hgrow (by simp; omega) (fun k hk => HR1.out _ hk))
        clear hown1 hgrow
        go_wp2_with fail
        go_roundw
        case rel => exact ⟨i + 2, d ++ [x], by go_num, HO1.out, HB1.out, HU⟩
        case measure => simp [intOf]; omega
      have r114 : (((s[i + 1].toNat : Nat) : Int) == 114) = false := by simp; omega
      have ENO := Lib.hid (fun h6 => UN.out N39.out NB.out A92.out (escV_no NL.out (by rw [← HX1.out]; exact c92) (by rw [← HX1.out]; exact c39) (by rw [← HX1.out]; exact c110) (by rw [← HX1.out]; exact c116) (by rw [← HX1.out]; exact c114) h6))
      by_cases c120 : s[i + 1].toNat = 120
      rotate_left
      · have r120 : (((s[i + 1].toNat : Nat) : Int) == 120) = false := by simp; omega
        have HU := Lib.hid (ENO.out (.inr (.inl (by rw [← HX1.out]; exact c120))))
        go_wp2_with fail
        refine HS.out.mono ?_
        rintro e w8 ⟨rfl, rfl⟩
        go_wp2_with fail
        go_ret3
        exact ⟨by rw [HRb.out, HU.out]; rfl, HBW.out⟩
      have r120 : (((s[i + 1].toNat : Nat) : Int) == 120) = true := by simp; omega
      have C120 : Hid (nb (s.data.toList.drop i) 1 = 120) := Lib.hid (by rw [← HX1.out]; exact c120)
      clear c120
      by_cases b3 : i + 3 < s.size
      rotate_left
      · have q7 : ¬ (i : Int) + 3 < s.size := by omega
        have HU := Lib.hid (ENO.out (.inl (by rw [HLD.out]; omega)))
        go_wp2_with fail
        refine HS.out.mono ?_
        rintro e w8 ⟨rfl, rfl⟩
        go_wp2_with fail
        go_ret3
        exact ⟨by rw [HRb.out, HU.out]; rfl, HBW.out⟩
      have q7 : (i : Int) + 3 < s.size := by omega
      have b2 : i + 2 < s.size := by omega
      have q7d : decide ((s.size : Int) ≤ i + 3) = false := by simp; omega
      have HX2 : Hid (s[i + 2].toNat = nb (s.data.toList.drop i) 2) := Lib.hid (by rw [nb_drop]; exact nb_get s (i + 2) b2)
      have HX3 : Hid (s[i + 3].toNat = nb (s.data.toList.drop i) 3) := Lib.hid (by rw [nb_drop]; exact nb_get s (i + 3) b3)
      have hc2 : s[i + 2].toNat < 256 := by have := s[i + 2].toNat_lt; omega
      have hc3 : s[i + 3].toNat < 256 := by have := s[i + 3].toNat_lt; omega
      have l2 := hexv_lt s[i + 2].toNat
      have l3 := hexv_lt s[i + 3].toNat
      by_cases n2 : hexv s[i + 2].toNat < 0
      · have HU := Lib.hid (ENO.out (.inr (.inr (.inl (by rw [← HX2.out]; exact n2)))))
        go_wp2_with fail
        refine HS.out.mono ?_
        rintro e w8 ⟨rfl, rfl⟩
        go_wp2_with fail
        refine (hexv_any _ (by assumption) _).mono ?_
        rintro e w8 ⟨rfl, rfl⟩
        go_wp2_with fail
        go_ret3
        exact ⟨by rw [HRb.out, HU.out]; rfl, HBW.out⟩
      have n2' : 0 ≤ hexv s[i + 2].toNat := by omega
      have n2d : decide (hexv s[i + 2].toNat < 0) = false := by simp; omega
      by_cases n3 : hexv s[i + 3].toNat < 0
      · have HU := Lib.hid (ENO.out (.inr (.inr (.inr (by rw [← HX3.out]; exact n3)))))
        go_wp2_with fail
        refine HS.out.mono ?_
        rintro e w8 ⟨rfl, rfl⟩
        go_wp2_with fail
        refine (hexv_any _ (by assumption) _).mono ?_
        rintro e w8 ⟨rfl, rfl⟩
        go_wp2_with fail
        refine (hexv_any _ (by assumption) _).mono ?_
        rintro e w8 ⟨rfl, rfl⟩
        go_wp2_with fail
        go_ret3
        exact ⟨by rw [HRb.out, HU.out]; rfl, HBW.out⟩
      have n3' : 0 ≤ hexv s[i + 3].toNat := by omega
      have n3d : decide (hexv s[i + 3].toNat < 0) = false := by simp; omega
      have HU := Lib.hid (UE.out N39.out NB.out A92.out (escV_x (by rw [HLD.out]; omega) C120.out (by rw [← HX2.out]; exact n2) (by rw [← HX3.out]; exact n3)))
      rw [← HX2.out, ← HX3.out] at HU
      have HXV : Hid (((UInt8.ofNat (hexv s[i + 2].toNat * (16 : Int) + hexv s[i + 3].toNat).toNat).toNat : Int) = hexv s[i + 2].toNat * 16 + hexv s[i + 3].toNat) := Lib.hid (by simp; omega)
      generalize UInt8.ofNat (hexv s[i + 2].toNat * (16 : Int) + hexv s[i + 3].toNat).toNat = x at *
      go_wp2_with fail
      refine HS.out.mono ?_
      rintro e w8 ⟨rfl, rfl⟩
      go_wp2_with fail
      refine (hexv_any _ (by assumption) _).mono ?_
      rintro e w8 ⟨rfl, rfl⟩
      go_wp2_with fail
      refine (hexv_any _ (by assumption) _).mono ?_
      rintro e w8 ⟨rfl, rfl⟩
      go_wp2_with fail
      have y1 : (0 : Int) ≤ (i : Int) + 2 := by omega
      have y2 : (i : Int) + 2 < s.size := by omega
      have y3 : (0 : Int) ≤ (i : Int) + 3 := by omega
      have y4 : ((i : Int) + 2).toNat = i + 2 := by omega
      have y5 : ((i : Int) + 3).toNat = i + 3 := by omega
      have z1 : IntKind.i64.wrap ((i : Int) + 2 + 1) = (i : Int) + 3 := by rw [IntWalk.i64_in _ (by omega)]; omega
      have z2 : IntKind.i64.wrap (hexv s[i + 2].toNat * 16) = hexv s[i + 2].toNat * 16 := IntWalk.i64_in _ (by omega)
      have z3 : IntKind.i64.wrap (hexv s[i + 2].toNat * 16 + hexv s[i + 3].toNat) = hexv s[i + 2].toNat * 16 + hexv s[i + 3].toNat := IntWalk.i64_in _ (by omega)
      have z4 : IntKind.u8.wrap (hexv s[i + 2].toNat * 16 + hexv s[i + 3].toNat) = hexv s[i + 2].toNat * 16 + hexv s[i + 3].toNat := IntWalk.u8_in _ (by omega)
      have b1' : i + 1 < s.size := b1
      go_region_law (first | (refine step_append_lies _ (by rfl) _ _ _ (by rfl) w.heap.size 5 i0 (.int .u8 0) 1 1 Try.underlying36 I0.out I1.out I2.out I3.out rfl (by omega) u7 d.length (Lib.byteCells d) (by rfl) ((HO.out.alloc _)) ⟨wr.heap.size, 0, none⟩ 1 1 [_] (by rfl) (by rfl) (World.news_of_block (cs := #[_]) (t := 5) (fr := (0, 0)) (heap_alloc_new wr _)) (by simp [Value.oneCell']) (by omega) (by unfold maxLen; omega) (by omega) (by simp; omega) (wr.heap.size + 1) (by simp) ?_; intro gg cap2 w1 hown1 hgrow hat hlt1) | (go_simp; refine (hexv_any _ (by assumption) _).mono ?_; rintro e w8 ⟨rfl, rfl⟩))
      all_goals
        have HO1 : Hid (w1.ownsRow w.heap.size 5 1 (.slice (some ⟨gg, 0, none⟩) (d.length + 1) cap2) (d ++ [x]).length (Lib.byteCells (d ++ [x]))) := Lib.hid (by rw [byteCells_snoc, HXV.out]; simpa using hown1)
        have HB1 : Hid (Below w.heap.size w w1) := Lib.hid (Below.grown (((HBW.out.alloc (by omega) _)).drew) hgrow (by simp; omega) (fun k hk => HR1.out _ hk))
        clear hown1 hgrow hat hlt1
        go_wp2_with fail
        go_roundw
        case rel => exact ⟨i + 4, d ++ [x], by go_num, HO1.out, HB1.out, HU⟩
        case measure => simp [intOf]; omega
    · have hp' : ¬ (i : Int) < s.size := by omega
      have HU := Lib.hid (doneD_end hd.out (by rw [HL.out]; omega))
      go_wp2_with fail
      go_ret3
      exact ⟨by rw [HRb.out, HU.out]; rfl, HBW.out⟩
end Go.Proofs.Ytangldmjgidgcaa

/- Layer 5: the contract of the program's Quote. Written by genS10.py. Conditions: the text is no longer than 2^40. -/
import Derived.Test.YtangldmjgidgcaaS8
import Derived.Test.YtangldmjgidgcaaS9
import Derived.Outline
import Derived.BigQuiet
namespace Go.Proofs.Ytangldmjgidgcaa
open Go.RowKit Go.Shelf
set_option linter.unusedSimpArgs false
set_option linter.unusedVariables false

theorem Wrote.old {B : Nat} {l : List UInt8} {a w w' : World} (h : Wrote B B l w w') (k : Below B a w) : Below B a w' := k.trans h.2.1

theorem hasPrefix_any (s : ByteArray) (b : Bool) (w : World) (h : Lib.hasPrefix s.data.toList [239, 191, 189] = b) :
    Calls Try.prog 23 #[.string s, .string ⟨#[239, 191, 189]⟩] w fun e w' => e = .returned (.bool b) ∧ w = w' := by
  refine (Any.strings_HasPrefix { shLays99 with } s ⟨#[239, 191, 189]⟩ w).mono ?_
  rintro e w' ⟨rfl, rfl⟩
  exact ⟨by rw [← h], rfl⟩

set_option maxRecDepth 1000000 in
set_option maxHeartbeats 4000000 in
theorem quote_any (s : ByteArray) (w : World) (hs : s.size ≤ 1099511627776) :
    Calls Try.prog 10 #[.string s] w fun e w' => e = .returned (.string (strOf (39 :: (quoteL s.data.toList ++ [39])))) ∧ Below w.heap.size w w' := by
  go_enter Try.func10, Try.ntmps10
  go_wp2_with fail
  have HI0 := Lib.hid (show Bld w.heap.size w.heap.size [] _ from (Lib.IsBuilderF.of (Lib.fresh_isBuilder 44 5 w)))
  refine (bld_byte w.heap.size w.heap.size [] 39 _ HI0.out (by simp) (by simp) (by omega)).mono ?_
  rintro e W1 ⟨rfl, k1⟩
  have hbl := k1.old ((Below.refl _ w).alloc (Nat.le_refl _) _)
  have hsz := k1.2.1.size
  simp at hsz
  have HI1 := Lib.hid k1.1
  clear HI0 k1
  go_wp2_with fail
  go_loopw [] (fun wr => ∃ (pos : Nat) (d : List UInt8), Bld w.heap.size w.heap.size (39 :: d) wr ∧ wr.heap[W1.heap.size]? = some (.stringIter s pos) ∧ Below w.heap.size w wr ∧ Hid (DoneQ s.data.toList pos d)) (fun wr => s.size - wr.iterPos W1.heap.size)
  case atStart =>
    refine ⟨0, [], HI1.out.alloc _, ?_, hbl.alloc (by omega) _, Lib.hid (doneQ_zero _)⟩
    have := World.iter_heap W1 s 0
    simpa using this
  case round =>
    obtain ⟨pos, d, hI, hit, hbw, hd⟩ := hrel
    have hszr : W1.heap.size < wr.heap.size := (Array.getElem?_eq_some_iff.1 hit).1
    have HIT := Lib.hid hit
    clear hit
    have HBW := Lib.hid hbw
    clear hbw HI1 hbl
    have HI := Lib.hid hI
    clear hI
    by_cases hp : pos < s.size
    · have hnx : ∀ ty, (Instr.next (.pointer (some ⟨W1.heap.size, 0, none⟩)) true ty).run Try.prog wr = _ := fun ty => Lib.run_next_any_at wr W1.heap.size s pos ty HIT.out hp
      have hln : (s.data.toList.drop pos).length ≠ 0 := by simp; omega
      have hdec := decode_spec s pos hp
      have NX := Lib.hid (doneQ_step hd.out (by simp; exact hp))
      have hdl := hd.out.2.1
      have hmv : (if sg (s.data.toList.drop pos) = 0 then 1 else sg (s.data.toList.drop pos)) = stepQ (s.data.toList.drop pos) := rfl
      rw [hmv] at hdec
      have hm1 := stepQ_pos (s.data.toList.drop pos)
      have hm2 := stepQ_le hln
      rw [List.length_drop] at hm2
      simp only [Array.length_toList, ByteArray.size_data] at hm2
      have hrl : rv (s.data.toList.drop pos) ≤ 2147483647 := by have := decode_le s pos; rw [hdec] at this; exact this
      rw [hdec] at hnx
      dsimp only at hnx
      have HPC : Hid (∀ c, c = s[pos] → nb (s.data.toList.drop pos) 0 = c.toNat) := Lib.hid (fun c hc => by rw [nb_drop, Nat.add_zero, hc, nb_get s pos hp])
      have hcb : s[pos].toNat < 256 := by have := s[pos].toNat_lt; omega
      have HX := Lib.hid (HPC.out _ rfl)
      have R1 := Lib.hid (pieceQ_1 hln)
      have R10 := Lib.hid (pieceQ_10 hln)
      have R9 := Lib.hid (pieceQ_9 hln)
      have R13 := Lib.hid (pieceQ_13 hln)
      have RC := Lib.hid (pieceQ_c hln)
      have RR := Lib.hid (pieceQ_r hln)
      have hex : s.extract pos s.size = strOf (s.data.toList.drop pos) := by
        have h := extract_strOf s pos (s.size - pos) (by omega)
        rw [show pos + (s.size - pos) = s.size from by omega, List.take_of_length_le (by simp)] at h
        exact h
      have HEX := Lib.hid hex
      clear hex hdec hmv HPC
      rw [HX.out] at RC
      generalize rv (s.data.toList.drop pos) = r at *
      generalize pieceQ (s.data.toList.drop pos) = P at *
      generalize stepQ (s.data.toList.drop pos) = m at *
      have HI2 := Lib.hid (show Bld w.heap.size w.heap.size (39 :: d) (wr.iterAt W1.heap.size s (pos + m)) from (HI.out.iterAt HIT.out (pos + m)))
      have HIT2 := Lib.hid (Lib.iterAt_heap wr W1.heap.size s pos (pos + m) HIT.out)
      have HBW2 := Lib.hid (Lib.below_iterAt HBW.out (k := W1.heap.size) (by omega) s (pos + m))
      have hsz2 : w.heap.size ≤ (wr.iterAt W1.heap.size s (pos + m)).heap.size := by rw [Lib.iterAt_size]; omega
      generalize hWn : wr.iterAt W1.heap.size s (pos + m) = Wn at *
      have HWn := Lib.hid hWn
      clear hWn HX
      by_cases a92 : r = 92
      · have q92 : ((r : Int) == 92) = true := by simp; omega
        have HP := Lib.hid (R1.out (by omega))
        clear a92
        go_wp2_with fail
        refine (bld_byte w.heap.size w.heap.size _ 92 _ HI2.out (by simp; omega) hsz2 (by omega)).mono ?_
        rintro e Wa ⟨rfl, kWa⟩
        have KWa := Lib.hid kWa
        clear kWa
        go_wp2_with fail
        refine (bld_rune w.heap.size w.heap.size _ r _ KWa.out.1 (by simp; omega) (KWa.out.size hsz2) hrl).mono ?_
        rintro e Wb ⟨rfl, kWb⟩
        have KWb := Lib.hid kWb
        clear kWb
        have KW := Lib.hid (KWa.out.trans KWb.out)
        go_wp2_with fail
        go_roundw
        case rel => exact ⟨pos + m, d ++ P, by have := KW.out.1; rw [show P = _ from HP.out]; simpa using this, KW.out.2.2.iter HIT2.out (by simp; omega), HBW2.out.trans KW.out.2.1, NX⟩
        case measure => simp only [World.iterPos, KW.out.2.2.iter HIT2.out (by simp; omega), HIT.out]; omega
      have q92 : ((r : Int) == 92) = false := by simp; omega
      by_cases a39 : r = 39
      · have q39 : ((r : Int) == 39) = true := by simp; omega
        have HP := Lib.hid (R1.out (by omega))
        clear a39
        go_wp2_with fail
        refine (bld_byte w.heap.size w.heap.size _ 92 _ HI2.out (by simp; omega) hsz2 (by omega)).mono ?_
        rintro e Wa ⟨rfl, kWa⟩
        have KWa := Lib.hid kWa
        clear kWa
        go_wp2_with fail
        refine (bld_rune w.heap.size w.heap.size _ r _ KWa.out.1 (by simp; omega) (KWa.out.size hsz2) hrl).mono ?_
        rintro e Wb ⟨rfl, kWb⟩
        have KWb := Lib.hid kWb
        clear kWb
        have KW := Lib.hid (KWa.out.trans KWb.out)
        go_wp2_with fail
        go_roundw
        case rel => exact ⟨pos + m, d ++ P, by have := KW.out.1; rw [show P = _ from HP.out]; simpa using this, KW.out.2.2.iter HIT2.out (by simp; omega), HBW2.out.trans KW.out.2.1, NX⟩
        case measure => simp only [World.iterPos, KW.out.2.2.iter HIT2.out (by simp; omega), HIT.out]; omega
      have q39 : ((r : Int) == 39) = false := by simp; omega
      by_cases a10 : r = 10
      · have q10 : ((r : Int) == 10) = true := by simp; omega
        have HP := Lib.hid (R10.out a10)
        clear a10
        go_wp2_with fail
        refine (bld_string w.heap.size w.heap.size _ ⟨#[92, 110]⟩ _ HI2.out (by have : (ByteArray.mk #[92, 110]).size = 2 := rfl; simp; omega) hsz2).mono ?_
        rintro e KW0 ⟨rfl, kKW0⟩
        have KKW0 := Lib.hid kKW0
        clear kKW0
        have KW := KKW0
        go_wp2_with fail
        go_roundw
        case rel => exact ⟨pos + m, d ++ P, by have := KW.out.1; rw [show P = _ from HP.out]; simpa using this, KW.out.2.2.iter HIT2.out (by simp; omega), HBW2.out.trans KW.out.2.1, NX⟩
        case measure => simp only [World.iterPos, KW.out.2.2.iter HIT2.out (by simp; omega), HIT.out]; omega
      have q10 : ((r : Int) == 10) = false := by simp; omega
      by_cases a9 : r = 9
      · have q9 : ((r : Int) == 9) = true := by simp; omega
        have HP := Lib.hid (R9.out a9)
        clear a9
        go_wp2_with fail
        refine (bld_string w.heap.size w.heap.size _ ⟨#[92, 116]⟩ _ HI2.out (by have : (ByteArray.mk #[92, 116]).size = 2 := rfl; simp; omega) hsz2).mono ?_
        rintro e KW0 ⟨rfl, kKW0⟩
        have KKW0 := Lib.hid kKW0
        clear kKW0
        have KW := KKW0
        go_wp2_with fail
        go_roundw
        case rel => exact ⟨pos + m, d ++ P, by have := KW.out.1; rw [show P = _ from HP.out]; simpa using this, KW.out.2.2.iter HIT2.out (by simp; omega), HBW2.out.trans KW.out.2.1, NX⟩
        case measure => simp only [World.iterPos, KW.out.2.2.iter HIT2.out (by simp; omega), HIT.out]; omega
      have q9 : ((r : Int) == 9) = false := by simp; omega
      by_cases a13 : r = 13
      · have q13 : ((r : Int) == 13) = true := by simp; omega
        have HP := Lib.hid (R13.out a13)
        clear a13
        go_wp2_with fail
        refine (bld_string w.heap.size w.heap.size _ ⟨#[92, 114]⟩ _ HI2.out (by have : (ByteArray.mk #[92, 114]).size = 2 := rfl; simp; omega) hsz2).mono ?_
        rintro e KW0 ⟨rfl, kKW0⟩
        have KKW0 := Lib.hid kKW0
        clear kKW0
        have KW := KKW0
        go_wp2_with fail
        go_roundw
        case rel => exact ⟨pos + m, d ++ P, by have := KW.out.1; rw [show P = _ from HP.out]; simpa using this, KW.out.2.2.iter HIT2.out (by simp; omega), HBW2.out.trans KW.out.2.1, NX⟩
        case measure => simp only [World.iterPos, KW.out.2.2.iter HIT2.out (by simp; omega), HIT.out]; omega
      have q13 : ((r : Int) == 13) = false := by simp; omega
      by_cases b32 : r < 32
      · have q32 : decide ((r : Int) < 32) = true := by simp; omega
        have q33 : (r : Int) < 32 := by omega
        have HP := Lib.hid (RC.out (.inl ⟨by omega, by omega, by omega, by omega⟩))
        go_wp2_with fail
        refine (coded_any w.heap.size w.heap.size _ s[pos].toNat _ HI2.out (by simp; omega) hsz2 hcb).mono ?_
        rintro e KW0 ⟨rfl, kKW0⟩
        have KKW0 := Lib.hid kKW0
        clear kKW0
        have KW := KKW0
        go_wp2_with fail
        go_roundw
        case rel => exact ⟨pos + m, d ++ P, by have := KW.out.1; rw [show P = _ from HP.out]; simpa using this, KW.out.2.2.iter HIT2.out (by simp; omega), HBW2.out.trans KW.out.2.1, NX⟩
        case measure => simp only [World.iterPos, KW.out.2.2.iter HIT2.out (by simp; omega), HIT.out]; omega
      have q32 : decide ((r : Int) < 32) = false := by simp; omega
      have q33 : ¬ (r : Int) < 32 := by omega
      by_cases a127 : r = 127
      · have q127 : ((r : Int) == 127) = true := by simp; omega
        have HP := Lib.hid (RC.out (.inr (.inl (by omega))))
        clear a127
        go_wp2_with fail
        refine (coded_any w.heap.size w.heap.size _ s[pos].toNat _ HI2.out (by simp; omega) hsz2 hcb).mono ?_
        rintro e KW0 ⟨rfl, kKW0⟩
        have KKW0 := Lib.hid kKW0
        clear kKW0
        have KW := KKW0
        go_wp2_with fail
        go_roundw
        case rel => exact ⟨pos + m, d ++ P, by have := KW.out.1; rw [show P = _ from HP.out]; simpa using this, KW.out.2.2.iter HIT2.out (by simp; omega), HBW2.out.trans KW.out.2.1, NX⟩
        case measure => simp only [World.iterPos, KW.out.2.2.iter HIT2.out (by simp; omega), HIT.out]; omega
      have q127 : ((r : Int) == 127) = false := by simp; omega
      by_cases a6 : r = 65533
      · have q6 : ((r : Int) == 65533) = true := by simp; omega
        by_cases hpf : Lib.hasPrefix (s.data.toList.drop pos) [239, 191, 189] = false
        · have hpx : Lib.hasPrefix (s.extract pos s.size).data.toList [239, 191, 189] = false := by rw [HEX.out, ← hpf]; rfl
          have HPF := Lib.hid (hasPrefix_any (s.extract pos s.size) false Wn hpx)
          clear hpx
          have HP := Lib.hid (RC.out (.inr (.inr ⟨a6, hpf⟩)))
          have HPF2 := Lib.hid hpf
          clear a6 hpf
          go_wp2_with fail
          refine HPF.out.mono ?_
          rintro e w8 ⟨rfl, rfl⟩
          go_wp2_with fail
          refine (coded_any w.heap.size w.heap.size _ s[pos].toNat _ HI2.out (by simp; omega) hsz2 hcb).mono ?_
          rintro e KW0 ⟨rfl, kKW0⟩
          have KKW0 := Lib.hid kKW0
          clear kKW0
          have KW := KKW0
          go_wp2_with fail
          go_roundw
          case rel => exact ⟨pos + m, d ++ P, by have := KW.out.1; rw [show P = _ from HP.out]; simpa using this, KW.out.2.2.iter HIT2.out (by simp; omega), HBW2.out.trans KW.out.2.1, NX⟩
          case measure => simp only [World.iterPos, KW.out.2.2.iter HIT2.out (by simp; omega), HIT.out]; omega
        have hpf : Lib.hasPrefix (s.data.toList.drop pos) [239, 191, 189] = true := by simpa using hpf
        have hpx : Lib.hasPrefix (s.extract pos s.size).data.toList [239, 191, 189] = true := by rw [HEX.out, ← hpf]; rfl
        have HPF := Lib.hid (hasPrefix_any (s.extract pos s.size) true Wn hpx)
        clear hpx
        have HP := Lib.hid (RR.out (by omega) (by omega) b32 (by omega) (.inr hpf))
        have HPF2 := Lib.hid hpf
        clear a6 hpf
        go_wp2_with fail
        refine HPF.out.mono ?_
        rintro e w8 ⟨rfl, rfl⟩
        go_wp2_with fail
        refine (bld_rune w.heap.size w.heap.size _ r _ HI2.out (by simp; omega) hsz2 hrl).mono ?_
        rintro e KW0 ⟨rfl, kKW0⟩
        have KKW0 := Lib.hid kKW0
        clear kKW0
        have KW := KKW0
        go_wp2_with fail
        go_roundw
        case rel => exact ⟨pos + m, d ++ P, by have := KW.out.1; rw [show P = _ from HP.out]; simpa using this, KW.out.2.2.iter HIT2.out (by simp; omega), HBW2.out.trans KW.out.2.1, NX⟩
        case measure => simp only [World.iterPos, KW.out.2.2.iter HIT2.out (by simp; omega), HIT.out]; omega
      have q6 : ((r : Int) == 65533) = false := by simp; omega
      have HP := Lib.hid (RR.out (by omega) (by omega) b32 (by omega) (.inl a6))
      go_wp2_with fail
      refine (bld_rune w.heap.size w.heap.size _ r _ HI2.out (by simp; omega) hsz2 hrl).mono ?_
      rintro e KW0 ⟨rfl, kKW0⟩
      have KKW0 := Lib.hid kKW0
      clear kKW0
      have KW := KKW0
      go_wp2_with fail
      go_roundw
      case rel => exact ⟨pos + m, d ++ P, by have := KW.out.1; rw [show P = _ from HP.out]; simpa using this, KW.out.2.2.iter HIT2.out (by simp; omega), HBW2.out.trans KW.out.2.1, NX⟩
      case measure => simp only [World.iterPos, KW.out.2.2.iter HIT2.out (by simp; omega), HIT.out]; omega
    · have hnx : ∀ ty, (Instr.next (.pointer (some ⟨W1.heap.size, 0, none⟩)) true ty).run Try.prog wr = _ := fun ty => Lib.run_next_end_at wr W1.heap.size s pos ty HIT.out hp
      have HE := Lib.hid (doneQ_end hd.out (by simp; omega))
      have hdl := hd.out.2.1
      have hpl := hd.out.1
      simp only [Array.length_toList, ByteArray.size_data] at hpl
      go_wp2_with fail
      refine (bld_byte w.heap.size w.heap.size _ 39 _ HI.out (by simp; omega) (by omega) (by omega)).mono ?_
      rintro e Wa ⟨rfl, kWa⟩
      have KWa := Lib.hid kWa
      clear kWa
      go_wp2_with fail
      refine (bld_str w.heap.size w.heap.size _ _ KWa.out.1 (KWa.out.size (by omega))).mono ?_
      rintro e Wb ⟨rfl, kWb⟩
      have KWb := Lib.hid kWb
      clear kWb
      go_wp2_with fail
      go_ret
      exact ⟨by rw [HE.out]; rfl, (HBW.out.trans KWa.out.2.1).trans KWb.out.2.1⟩
end Go.Proofs.Ytangldmjgidgcaa

/- Parts S8, S10, S12 of this seat (pruned, scripts that are alike kept once as default arguments: q1, q2, ..). Conditions: each says its own. -/
import Derived.Test.YtndhpdclpgemfaaGreatZ9
namespace Go.Proofs.YtndhpdclpgemfaaGreat
open Go.RowKit Go.Shelf
set_option linter.unusedSimpArgs false
set_option linter.unusedVariables false
def Bld (B b : Nat) (l : List UInt8) (w : World) : Prop := Lib.IsBuilderF 74 5 B b (Lib.byteCells l) w
def Wrote (B b : Nat) (l : List UInt8) (w w' : World) : Prop := Bld B b l w' ∧ Below B w w' ∧ Lib.OthersKept 5 (some b) w w'
theorem bld_byte (B b : Nat) (l : List UInt8) (c : Nat) (w : World) (h : Bld B b l w) (hl : l.length + 1 ≤ 140737488355328) (hB : B ≤ w.heap.size) (hc : c < 256) :
    Calls Tryz.prog 24 #[.pointer (some ⟨b, 0, none⟩), .int .u8 c] w fun e w' => e = .returned .nilIface ∧ Wrote B b (l ++ [UInt8.ofNat c]) w w' := by
 refine (Any.Builder_WriteByte_k { shLays167 with } shExtra B b (Lib.byteCells l) c w h (by rw [Lib.byteCells_length]; exact hl) hB).mono ?_
 rintro e w' ⟨rfl, h1, b1, k1⟩
 refine ⟨rfl, Or.inr ?_, b1, k1⟩
 rw [Lib.byteCells_append, show Lib.byteCells [UInt8.ofNat c] = [.int .u8 c] from by simp [Lib.byteCells]; omega]
 exact h1
theorem bld_string (B b : Nat) (l : List UInt8) (s : ByteArray) (w : World) (h : Bld B b l w) (hl : l.length + s.size ≤ 140737488355328) (hB : B ≤ w.heap.size) :
    Calls Tryz.prog 26 #[.pointer (some ⟨b, 0, none⟩), .string s] w fun e w' => e = .returned (.tuple #[.int .i64 s.size, .nilIface]) ∧ Wrote B b (l ++ s.data.toList) w w' := by
 refine (Any.Builder_WriteString_k { shLays166 with } shExtra B b (Lib.byteCells l) s w h (by rw [Lib.byteCells_length]; exact hl) hB).mono ?_
 rintro e w' ⟨rfl, h1, b1, k1⟩
 refine ⟨rfl, Or.inr ?_, b1, k1⟩
 rw [Lib.byteCells_append]
 exact h1
theorem bld_rune (B b : Nat) (l : List UInt8) (r : Nat) (w : World) (h : Bld B b l w) (hl : l.length + 4 ≤ 140737488355328) (hB : B ≤ w.heap.size) (hr : r ≤ 2147483647) :
    Calls Tryz.prog 92 #[.pointer (some ⟨b, 0, none⟩), .int .i32 r] w fun e w' => e = .returned (.tuple #[.int .i64 (Lib.runeCells r).length, .nilIface]) ∧ Wrote B b (l ++ Lib.encodeRune r) w w' := by
 refine (Any.Builder_WriteRune_k { shLays168 with } shExtra B b (Lib.byteCells l) r (by omega) (by omega) w h (by rw [Lib.byteCells_length]; exact hl) hB).mono ?_
 rintro e w' ⟨rfl, h1, b1, k1⟩
 refine ⟨rfl, Or.inr ?_, b1, k1⟩
 rw [Lib.byteCells_append, Lib.byteCells_encodeRune]
 exact h1
theorem bld_str (B b : Nat) (l : List UInt8) (w : World) (h : Bld B b l w) (hB : B ≤ w.heap.size) :
    Calls Tryz.prog 28 #[.pointer (some ⟨b, 0, none⟩)] w fun e w' => e = .returned (.string (strOf l)) ∧ Wrote B b l w w' := by
 refine (Any.Builder_String_any_k { shLays169 with } shExtra B b l w h hB).mono ?_
 rintro e w' ⟨rfl, h1, b1, k1⟩
 exact ⟨rfl, h1, b1, k1⟩
theorem Wrote.trans {B b : Nat} {l l' : List UInt8} {w w' w'' : World} (h : Wrote B b l w w') (k : Wrote B b l' w' w'') : Wrote B b l' w w'' := ⟨k.1, h.2.1.trans k.2.1, h.2.2.trans k.2.2⟩
theorem Wrote.size {B b : Nat} {l : List UInt8} {w w' : World} (h : Wrote B b l w w') : B ≤ w.heap.size → B ≤ w'.heap.size := fun k => Nat.le_trans k h.2.1.size
set_option maxRecDepth 20000 in
theorem coded_any (B b : Nat) (l : List UInt8) (c : Nat) (w : World) (h : Bld B b l w) (hl : l.length + 4 ≤ 140737488355328) (hB : B ≤ w.heap.size) (hc : c < 256) :
    Calls Tryz.prog 94 #[.pointer (some ⟨b, 0, none⟩), .int .u8 c] w fun e w' => e = .returned (.tuple #[]) ∧ Wrote B b (l ++ ([92, 120] ++ hx2 c)) w w' := by
 have h1 : c / 16 < 16 := by omega
 have h2 : c % 16 < 16 := by omega
 have L1 := lit_at _ h1 h1
 have L2 := lit_at _ h2 h2
 have H1 := Lib.hid (bld_string B b l ⟨#[92, 120]⟩ w h (by have : (ByteArray.mk #[92, 120]).size = 2 := rfl; omega) hB)
 have hq : (c : Int) / 16 = ((c / 16 : Nat) : Int) := by omega
 have p1 : (0 : Int) ≤ ((c / 16 : Nat) : Int) := by omega
 have p2 : ((c / 16 : Nat) : Int) < 16 := by omega
 rw [show hx2 c = [hxd (c / 16), hxd (c % 16)] from rfl]
 have hr : (c : Int) % 16 = ((c % 16 : Nat) : Int) := by omega
 have p3 : (0 : Int) ≤ ((c % 16 : Nat) : Int) := by omega
 have p4 : ((c % 16 : Nat) : Int) < 16 := by omega
 generalize c / 16 = p at *
 generalize c % 16 = q at *
 go_enter Tryz.func94, Tryz.ntmps94
 go_wp2_with fail
 refine H1.out.mono ?_
 rintro e w1 ⟨rfl, k1⟩
 have K1 := Lib.hid k1
 clear k1
 go_wp2_with fail
 refine (bld_byte B b _ _ w1 K1.out.1 (by simp; omega) (K1.out.size hB) (hxd p).toNat_lt).mono ?_
 rintro e w2 ⟨rfl, k2⟩
 have K2 := Lib.hid k2
 clear k2
 go_wp2_with fail
 refine (bld_byte B b _ _ w2 K2.out.1 (by simp; omega) (K2.out.size (K1.out.size hB)) (hxd q).toNat_lt).mono ?_
 rintro e w3 ⟨rfl, k3⟩
 have K3 := Lib.hid k3
 clear k3
 go_wp2_with fail
 go_end0
 refine ⟨rfl, ?_⟩
 have := (K1.out.trans K2.out).trans K3.out
 simpa using this
theorem Wrote.old {B : Nat} {l : List UInt8} {a w w' : World} (h : Wrote B B l w w') (k : Below B a w) : Below B a w' := k.trans h.2.1
theorem hasPrefix_any (s : ByteArray) (b : Bool) (w : World) (h : Lib.hasPrefix s.data.toList [239, 191, 189] = b) :
    Calls Tryz.prog 93 #[.string s, .string ⟨#[239, 191, 189]⟩] w fun e w' => e = .returned (.bool b) ∧ w = w' := by
 refine (Any.strings_HasPrefix { shLays99 with } s ⟨#[239, 191, 189]⟩ w).mono ?_
 rintro e w' ⟨rfl, rfl⟩
 exact ⟨by rw [← h], rfl⟩
theorem Se427257 {P : Prop} (h : P := by
 first
 | (guard_hyp z427257a; have q92 : ((r : Int) == 92) = true := by simp; omega)
 | (have q39 : ((r : Int) == 39) = true := by simp; omega)
 have HP := Lib.hid (R1.out (by omega))
 first
 | (guard_hyp z427257a; clear a92)
 | (clear a39)
 go_wp2_with fail
 refine (bld_byte w.heap.size w.heap.size _ 92 _ HI2.out (by simp; omega) hsz2 (by omega)).mono ?_
 rintro e Wa ⟨rfl, kWa⟩
 have KWa := Lib.hid kWa
 clear kWa
 go_wp2_with fail
 refine (bld_rune w.heap.size w.heap.size _ r _ KWa.out.1 (by simp; omega) (KWa.out.size hsz2) hrl).mono ?_
 rintro e Wb ⟨rfl, kWb⟩
 have KWb := Lib.hid kWb
 clear kWb
 have KW := Lib.hid (KWa.out.trans KWb.out)
 go_wp2_with fail
 go_roundw
 case rel => exact ⟨pos + m, d ++ P, by have := KW.out.1; rw [show P = _ from HP.out]; simpa using this, KW.out.2.2.iter HIT2.out (by simp; omega), HBW2.out.trans KW.out.2.1, NX⟩
 case measure => simp only [World.iterPos, KW.out.2.2.iter HIT2.out (by simp; omega), HIT.out]; omega) : P := h
theorem Se649483 {P : Prop} (h : P := by
 first
 |(
  guard_hyp z649483a
  have q10 : ((r : Int) == 10) = true := by simp; omega
  have HP := Lib.hid (R10.out a10)
  clear a10)
 |(
  guard_hyp z649483b
  have q13 : ((r : Int) == 13) = true := by simp; omega
  have HP := Lib.hid (R13.out a13)
  clear a13)
 |(
  have q9 : ((r : Int) == 9) = true := by simp; omega
  have HP := Lib.hid (R9.out a9)
  clear a9)
 go_wp2_with fail
 first
 | (guard_hyp z649483a; refine (bld_string w.heap.size w.heap.size _ ⟨#[92, 110]⟩ _ HI2.out (by have : (ByteArray.mk #[92, 110]).size = 2 := rfl; simp; omega) hsz2).mono ?_)
 | (guard_hyp z649483b; refine (bld_string w.heap.size w.heap.size _ ⟨#[92, 114]⟩ _ HI2.out (by have : (ByteArray.mk #[92, 114]).size = 2 := rfl; simp; omega) hsz2).mono ?_)
 | (refine (bld_string w.heap.size w.heap.size _ ⟨#[92, 116]⟩ _ HI2.out (by have : (ByteArray.mk #[92, 116]).size = 2 := rfl; simp; omega) hsz2).mono ?_)
 rintro e KW0 ⟨rfl, kKW0⟩
 have KKW0 := Lib.hid kKW0
 clear kKW0
 have KW := KKW0
 go_wp2_with fail
 go_roundw
 case rel => exact ⟨pos + m, d ++ P, by have := KW.out.1; rw [show P = _ from HP.out]; simpa using this, KW.out.2.2.iter HIT2.out (by simp; omega), HBW2.out.trans KW.out.2.1, NX⟩
 case measure => simp only [World.iterPos, KW.out.2.2.iter HIT2.out (by simp; omega), HIT.out]; omega) : P := h
theorem Se946719 {P : Prop} (h : P := by
 first
 |(
  guard_hyp z946719a
  have hpx : Lib.hasPrefix (s.extract pos s.size).data.toList [239, 191, 189] = false := by rw [HEX.out, ← hpf]; rfl
  have HPF := Lib.hid (hasPrefix_any (s.extract pos s.size) false Wn hpx)
  clear hpx
  have HP := Lib.hid (RC.out (.inr (.inr ⟨a6, hpf⟩)))
  have HPF2 := Lib.hid hpf
  clear a6 hpf
  go_wp2_with fail
  refine HPF.out.mono ?_
  rintro e w8 ⟨rfl, rfl⟩)
 |(
  guard_hyp z946719c
  have q32 : decide ((r : Int) < 32) = true := by simp; omega
  have q33 : (r : Int) < 32 := by omega
  have HP := Lib.hid (RC.out (.inl ⟨by omega, by omega, by omega, by omega⟩)))
 |(
  have q127 : ((r : Int) == 127) = true := by simp; omega
  have HP := Lib.hid (RC.out (.inr (.inl (by omega))))
  clear a127)
 go_wp2_with fail
 refine (coded_any w.heap.size w.heap.size _ s[pos].toNat _ HI2.out (by simp; omega) hsz2 hcb).mono ?_
 rintro e KW0 ⟨rfl, kKW0⟩
 have KKW0 := Lib.hid kKW0
 clear kKW0
 have KW := KKW0
 go_wp2_with fail
 go_roundw
 case rel => exact ⟨pos + m, d ++ P, by have := KW.out.1; rw [show P = _ from HP.out]; simpa using this, KW.out.2.2.iter HIT2.out (by simp; omega), HBW2.out.trans KW.out.2.1, NX⟩
 case measure => simp only [World.iterPos, KW.out.2.2.iter HIT2.out (by simp; omega), HIT.out]; omega) : P := h
set_option maxRecDepth 1000000 in
set_option maxHeartbeats 4000000 in
theorem quote_any (s : ByteArray) (w : World) (hs : s.size ≤ 1099511627776) :
    Calls Tryz.prog 38 #[.string s] w fun e w' => e = .returned (.string (strOf (39 :: (quoteL s.data.toList ++ [39])))) ∧ Below w.heap.size w w' := by
 go_enter Tryz.func38, Tryz.ntmps38
 go_wp2_with fail
 have HI0 := Lib.hid (show Bld w.heap.size w.heap.size [] _ from (Lib.IsBuilderF.of (Lib.fresh_isBuilder 74 5 w)))
 refine (bld_byte w.heap.size w.heap.size [] 39 _ HI0.out (by simp) (by simp) (by omega)).mono ?_
 rintro e W1 ⟨rfl, k1⟩
 have hbl := k1.old ((Below.refl _ w).alloc (Nat.le_refl _) _)
 have hsz := k1.2.1.size
 simp at hsz
 have HI1 := Lib.hid k1.1
 clear HI0 k1
 go_wp2_with fail
 go_loopw [] (fun wr => ∃ (pos : Nat) (d : List UInt8), Bld w.heap.size w.heap.size (39 :: d) wr ∧ wr.heap[W1.heap.size]? = some (.stringIter s pos) ∧ Below w.heap.size w wr ∧ Hid (DoneQ s.data.toList pos d)) (fun wr => s.size - wr.iterPos W1.heap.size)
 case atStart =>
  refine ⟨0, [], HI1.out.alloc _, ?_, hbl.alloc (by omega) _, Lib.hid (doneQ_zero _)⟩
  have := World.iter_heap W1 s 0
  simpa using this
 case round =>
  obtain ⟨pos, d, hI, hit, hbw, hd⟩ := hrel
  have hszr : W1.heap.size < wr.heap.size := (Array.getElem?_eq_some_iff.1 hit).1
  have HIT := Lib.hid hit
  clear hit
  have HBW := Lib.hid hbw
  clear hbw HI1 hbl
  have HI := Lib.hid hI
  clear hI
  by_cases hp : pos < s.size
  ·have hnx : ∀ ty, (Instr.next (.pointer (some ⟨W1.heap.size, 0, none⟩)) true ty).run Tryz.prog wr = _ := fun ty => Lib.run_next_any_at wr W1.heap.size s pos ty HIT.out hp
   have hln : (s.data.toList.drop pos).length ≠ 0 := by simp; omega
   have hdec := decode_spec s pos hp
   have NX := Lib.hid (doneQ_step hd.out (by simp; exact hp))
   have hdl := hd.out.2.1
   have hmv : (if sg (s.data.toList.drop pos) = 0 then 1 else sg (s.data.toList.drop pos)) = stepQ (s.data.toList.drop pos) := rfl
   rw [hmv] at hdec
   have hm1 := stepQ_pos (s.data.toList.drop pos)
   have hm2 := stepQ_le hln
   rw [List.length_drop] at hm2
   simp only [Array.length_toList, ByteArray.size_data] at hm2
   have hrl : rv (s.data.toList.drop pos) ≤ 2147483647 := by have := decode_le s pos; rw [hdec] at this; exact this
   rw [hdec] at hnx
   dsimp only at hnx
   have HPC : Hid (∀ c, c = s[pos] → nb (s.data.toList.drop pos) 0 = c.toNat) := Lib.hid (fun c hc => by rw [nb_drop, Nat.add_zero, hc, nb_get s pos hp])
   have hcb : s[pos].toNat < 256 := by have := s[pos].toNat_lt; omega
   have HX := Lib.hid (HPC.out _ rfl)
   have R1 := Lib.hid (pieceQ_1 hln)
   have R10 := Lib.hid (pieceQ_10 hln)
   have R9 := Lib.hid (pieceQ_9 hln)
   have R13 := Lib.hid (pieceQ_13 hln)
   have RC := Lib.hid (pieceQ_c hln)
   have RR := Lib.hid (pieceQ_r hln)
   have hex : s.extract pos s.size = strOf (s.data.toList.drop pos) := by
    have h := extract_strOf s pos (s.size - pos) (by omega)
    rw [show pos + (s.size - pos) = s.size from by omega, List.take_of_length_le (by simp)] at h
    exact h
   have HEX := Lib.hid hex
   clear hex hdec hmv HPC
   rw [HX.out] at RC
   generalize rv (s.data.toList.drop pos) = r at *
   generalize pieceQ (s.data.toList.drop pos) = P at *
   generalize stepQ (s.data.toList.drop pos) = m at *
   have HI2 := Lib.hid (show Bld w.heap.size w.heap.size (39 :: d) (wr.iterAt W1.heap.size s (pos + m)) from (HI.out.iterAt HIT.out (pos + m)))
   have HIT2 := Lib.hid (Lib.iterAt_heap wr W1.heap.size s pos (pos + m) HIT.out)
   have HBW2 := Lib.hid (Lib.below_iterAt HBW.out (k := W1.heap.size) (by omega) s (pos + m))
   have hsz2 : w.heap.size ≤ (wr.iterAt W1.heap.size s (pos + m)).heap.size := by rw [Lib.iterAt_size]; omega
   generalize hWn : wr.iterAt W1.heap.size s (pos + m) = Wn at *
   have HWn := Lib.hid hWn
   clear hWn HX
   by_cases a92 : r = 92
   ·have z427257a := trivial
    exact Se427257
   have q92 : ((r : Int) == 92) = false := by simp; omega
   by_cases a39 : r = 39
   ·exact Se427257
   have q39 : ((r : Int) == 39) = false := by simp; omega
   by_cases a10 : r = 10
   ·have z649483a := trivial
    exact Se649483
   have q10 : ((r : Int) == 10) = false := by simp; omega
   by_cases a9 : r = 9
   ·exact Se649483
   have q9 : ((r : Int) == 9) = false := by simp; omega
   by_cases a13 : r = 13
   ·have z649483b := trivial
    exact Se649483
   have q13 : ((r : Int) == 13) = false := by simp; omega
   by_cases b32 : r < 32
   ·have z946719c := trivial
    exact Se946719
   have q32 : decide ((r : Int) < 32) = false := by simp; omega
   have q33 : ¬ (r : Int) < 32 := by omega
   by_cases a127 : r = 127
   ·exact Se946719
   have q127 : ((r : Int) == 127) = false := by simp; omega
   by_cases a6 : r = 65533
   ·have q6 : ((r : Int) == 65533) = true := by simp; omega
    by_cases hpf : Lib.hasPrefix (s.data.toList.drop pos) [239, 191, 189] = false
    ·have z946719a := trivial
     exact Se946719
    have hpf : Lib.hasPrefix (s.data.toList.drop pos) [239, 191, 189] = true := by simpa using hpf
    have hpx : Lib.hasPrefix (s.extract pos s.size).data.toList [239, 191, 189] = true := by rw [HEX.out, ← hpf]; rfl
    have HPF := Lib.hid (hasPrefix_any (s.extract pos s.size) true Wn hpx)
    clear hpx
    have HP := Lib.hid (RR.out (by omega) (by omega) b32 (by omega) (.inr hpf))
    have HPF2 := Lib.hid hpf
    clear a6 hpf
    go_wp2_with fail
    refine HPF.out.mono ?_
    rintro e w8 ⟨rfl, rfl⟩
    go_wp2_with fail
    refine (bld_rune w.heap.size w.heap.size _ r _ HI2.out (by simp; omega) hsz2 hrl).mono ?_
    rintro e KW0 ⟨rfl, kKW0⟩
    have KKW0 := Lib.hid kKW0
    clear kKW0
    have KW := KKW0
    go_wp2_with fail
    go_roundw
    case rel => exact ⟨pos + m, d ++ P, by have := KW.out.1; rw [show P = _ from HP.out]; simpa using this, KW.out.2.2.iter HIT2.out (by simp; omega), HBW2.out.trans KW.out.2.1, NX⟩
    case measure => simp only [World.iterPos, KW.out.2.2.iter HIT2.out (by simp; omega), HIT.out]; omega
   have q6 : ((r : Int) == 65533) = false := by simp; omega
   have HP := Lib.hid (RR.out (by omega) (by omega) b32 (by omega) (.inl a6))
   go_wp2_with fail
   refine (bld_rune w.heap.size w.heap.size _ r _ HI2.out (by simp; omega) hsz2 hrl).mono ?_
   rintro e KW0 ⟨rfl, kKW0⟩
   have KKW0 := Lib.hid kKW0
   clear kKW0
   have KW := KKW0
   go_wp2_with fail
   go_roundw
   case rel => exact ⟨pos + m, d ++ P, by have := KW.out.1; rw [show P = _ from HP.out]; simpa using this, KW.out.2.2.iter HIT2.out (by simp; omega), HBW2.out.trans KW.out.2.1, NX⟩
   case measure => simp only [World.iterPos, KW.out.2.2.iter HIT2.out (by simp; omega), HIT.out]; omega
  ·have hnx : ∀ ty, (Instr.next (.pointer (some ⟨W1.heap.size, 0, none⟩)) true ty).run Tryz.prog wr = _ := fun ty => Lib.run_next_end_at wr W1.heap.size s pos ty HIT.out hp
   have HE := Lib.hid (doneQ_end hd.out (by simp; omega))
   have hdl := hd.out.2.1
   have hpl := hd.out.1
   simp only [Array.length_toList, ByteArray.size_data] at hpl
   go_wp2_with fail
   refine (bld_byte w.heap.size w.heap.size _ 39 _ HI.out (by simp; omega) (by omega) (by omega)).mono ?_
   rintro e Wa ⟨rfl, kWa⟩
   have KWa := Lib.hid kWa
   clear kWa
   go_wp2_with fail
   refine (bld_str w.heap.size w.heap.size _ _ KWa.out.1 (KWa.out.size (by omega))).mono ?_
   rintro e Wb ⟨rfl, kWb⟩
   have KWb := Lib.hid kWb
   clear kWb
   go_wp2_with fail
   go_ret
   exact ⟨by rw [HE.out]; rfl, (HBW.out.trans KWa.out.2.1).trans KWb.out.2.1⟩
theorem digV (c : Fin 256) : Lib.indexByte [48, 49, 50, 51, 52, 53, 54, 55, 56, 57, 97, 98, 99, 100, 101, 102] (UInt8.ofNat (if 65 ≤ c.val ∧ c.val ≤ 70 then c.val + 32 else c.val)) = hexv c.val := by
 revert c; decide +kernel
theorem indexHex_any (i : Int) (c : Nat) (hi : i = c) (v : Int) (hv : Lib.indexByte [48, 49, 50, 51, 52, 53, 54, 55, 56, 57, 97, 98, 99, 100, 101, 102] (UInt8.ofNat c) = v) (w : World) :
    Calls Tryz.prog 149 #[.string ⟨#[48, 49, 50, 51, 52, 53, 54, 55, 56, 57, 97, 98, 99, 100, 101, 102]⟩, .int .u8 i] w fun e w' => e = .returned (.int .i64 v) ∧ w = w' := by
 subst hi
 subst hv
 refine (Any.strings_IndexByte { shLays137 with } ⟨#[48, 49, 50, 51, 52, 53, 54, 55, 56, 57, 97, 98, 99, 100, 101, 102]⟩ c w).mono ?_
 rintro e w' ⟨rfl, rfl⟩
 exact ⟨rfl, rfl⟩
theorem Se213738 {P : Prop} (h : P := by
 first
 | (guard_hyp z213738a; have b' : ¬ (c : Int) ≤ 70 := by omega)
 | (have a' : ¬ (65 : Int) ≤ c := by omega)
 rw [if_neg (by omega)] at hv
 have HV := Lib.hid hv
 clear hv
 go_enter Tryz.func145, Tryz.ntmps145
 go_wp2_with fail
 refine (indexHex_any _ c rfl v HV.out w).mono ?_
 rintro e w' ⟨rfl, rfl⟩
 go_wp2_with fail
 go_ret
 exact ⟨rfl, rfl⟩) : P := h
theorem sdigit_any (c : Nat) (hc : c < 256) (w : World) :
    Calls Tryz.prog 145 #[.int .u8 c] w fun e w' => e = .returned (.int .i64 (hexv c)) ∧ w = w' := by
 have hv := digV ⟨c, hc⟩
 simp only at hv
 generalize hexv c = v at *
 by_cases a : 65 ≤ c
 ·have a' : (65 : Int) ≤ c := by omega
  by_cases b : c ≤ 70
  ·have b' : (c : Int) ≤ 70 := by omega
   rw [if_pos ⟨a, b⟩] at hv
   have HV := Lib.hid hv
   clear hv
   go_enter Tryz.func145, Tryz.ntmps145
   go_wp2_with fail
   refine (indexHex_any _ (c + 32) (by omega) v HV.out w).mono ?_
   rintro e w' ⟨rfl, rfl⟩
   go_wp2_with fail
   go_ret
   exact ⟨rfl, rfl⟩
  ·have z213738a := trivial
   exact Se213738
 ·exact Se213738
theorem sdigit_any2 (c : Nat) (hc : c < 256) (w : World) :
    Calls Tryz.prog 145 #[.int .u8 c] w fun e w' => e = .returned (.int .i64 (hexv c)) ∧ w' = w := (sdigit_any c hc w).mono fun _ _ ⟨h, k⟩ => ⟨h, k.symm⟩
theorem or16 : ∀ a b : Fin 16, bits BinOp.or IntKind.i64 ((a.val : Int) * 16) b.val % 256 = ((UInt8.ofNat ((a.val : Int) * (16 : Int) + b.val).toNat).toNat : Int) := by decide +kernel
theorem or_of {a b : Int} (h1 : 0 ≤ a) (h2 : a ≤ 15) (h3 : 0 ≤ b) (h4 : b ≤ 15) : bits BinOp.or IntKind.i64 (a * 16) b % 256 = ((UInt8.ofNat (a * (16 : Int) + b).toNat).toNat : Int) := by
 have h := or16 ⟨a.toNat, by omega⟩ ⟨b.toNat, by omega⟩
 simp only [Int.toNat_of_nonneg h1, Int.toNat_of_nonneg h3] at h
 exact h
theorem below_drewN (w : World) (n : Nat) : Below w.heap.size w (w.drewN n) := by
 induction n with
 | zero => exact Below.refl _ _
 | succ n ih => exact ih.drew
def escR (l : List UInt8) : Value := match escV l with | none => .tuple #[.int .u8 0, .int .i64 0] | some (x, n) => .tuple #[.int .u8 x.toNat, .int .i64 n]
theorem hexv_lt (c : Nat) : hexv c ≤ 15 := by unfold hexv; (repeat' split) <;> omega
theorem Se918550 {P : Prop} (h : P := by
 first
 | (guard_hyp z918550a; have q92 : (((s[1].toNat : Nat) : Int) == 92) = true := by simp; omega)
 | (have q39 : (((s[1].toNat : Nat) : Int) == 39) = true := by simp; omega)
 have HE := Lib.hid (show escR s.data.toList = _ from by unfold escR; rw [show escV s.data.toList = some (UInt8.ofNat (nb s.data.toList 1), 2) from by (have hln : s.data.toList.length = s.size := by simp); have hx := HX1.out; unfold escV; rw [if_neg (by omega), if_pos (by omega)]])
 first
 | (guard_hyp z918550a; clear a92)
 | (clear a39)
 rw [HE.out]
 go_enter Tryz.func134, Tryz.ntmps134
 go_wp2_with fail
 go_ret2
 exact ⟨by rw [← HX1.out]; simp, Below.refl _ _⟩) : P := h
set_option maxRecDepth 100000 in
set_option maxHeartbeats 1000000 in
theorem escaped_any (s : ByteArray) (w : World) (hs : s.size ≤ 9223372036854770000) :
    Calls Tryz.prog 134 #[.string s] w fun e w' => e = .returned (escR s.data.toList) ∧ Below w.heap.size w w' := by
 by_cases h1 : s.size < 2
 ·have q1 : (s.size : Int) < 2 := by omega
  have HE := Lib.hid (show escR s.data.toList = _ from by unfold escR; rw [show escV s.data.toList = none from by (have hln : s.data.toList.length = s.size := by simp); unfold escV; rw [if_pos (by omega)]])
  rw [HE.out]
  go_enter Tryz.func134, Tryz.ntmps134
  go_wp2_with fail
  go_ret2
  exact ⟨rfl, Below.refl _ _⟩
 have q1 : ¬ (s.size : Int) < 2 := by omega
 have HX1 : Hid (s[1].toNat = nb s.data.toList 1) := Lib.hid (nb_get s 1 (by omega))
 have hc1 : s[1].toNat < 256 := by have := s[1].toNat_lt; omega
 by_cases a92 : s[1].toNat = 92
 ·have z918550a := trivial
  exact Se918550
 have q92 : (((s[1].toNat : Nat) : Int) == 92) = false := by simp; omega
 by_cases a39 : s[1].toNat = 39
 ·exact Se918550
 have q39 : (((s[1].toNat : Nat) : Int) == 39) = false := by simp; omega
 by_cases a110 : s[1].toNat = 110
 ·have q110 : (((s[1].toNat : Nat) : Int) == 110) = true := by simp; omega
  have HE := Lib.hid (show escR s.data.toList = _ from by unfold escR; rw [show escV s.data.toList = some (10, 2) from by (have hln : s.data.toList.length = s.size := by simp); have hx := HX1.out; unfold escV; rw [if_neg (by omega), if_neg (by omega), if_pos (by omega)]])
  clear a110
  rw [HE.out]
  go_enter Tryz.func134, Tryz.ntmps134
  go_wp2_with fail
  go_ret2
  exact ⟨rfl, Below.refl _ _⟩
 have q110 : (((s[1].toNat : Nat) : Int) == 110) = false := by simp; omega
 by_cases a116 : s[1].toNat = 116
 ·have q116 : (((s[1].toNat : Nat) : Int) == 116) = true := by simp; omega
  have HE := Lib.hid (show escR s.data.toList = _ from by unfold escR; rw [show escV s.data.toList = some (9, 2) from by (have hln : s.data.toList.length = s.size := by simp); have hx := HX1.out; unfold escV; rw [if_neg (by omega), if_neg (by omega), if_neg (by omega), if_pos (by omega)]])
  clear a116
  rw [HE.out]
  go_enter Tryz.func134, Tryz.ntmps134
  go_wp2_with fail
  go_ret2
  exact ⟨rfl, Below.refl _ _⟩
 have q116 : (((s[1].toNat : Nat) : Int) == 116) = false := by simp; omega
 by_cases a114 : s[1].toNat = 114
 ·have q114 : (((s[1].toNat : Nat) : Int) == 114) = true := by simp; omega
  have HE := Lib.hid (show escR s.data.toList = _ from by unfold escR; rw [show escV s.data.toList = some (13, 2) from by (have hln : s.data.toList.length = s.size := by simp); have hx := HX1.out; unfold escV; rw [if_neg (by omega), if_neg (by omega), if_neg (by omega), if_neg (by omega), if_pos (by omega)]])
  clear a114
  rw [HE.out]
  go_enter Tryz.func134, Tryz.ntmps134
  go_wp2_with fail
  go_ret2
  exact ⟨rfl, Below.refl _ _⟩
 have q114 : (((s[1].toNat : Nat) : Int) == 114) = false := by simp; omega
 by_cases h4 : s.size < 4
 ·have q4 : (s.size : Int) < 4 := by omega
  have HE := Lib.hid (show escR s.data.toList = _ from by unfold escR; rw [show escV s.data.toList = none from by (have hln : s.data.toList.length = s.size := by simp); have hx := HX1.out; unfold escV; rw [if_neg (by omega), if_neg (by omega), if_neg (by omega), if_neg (by omega), if_neg (by omega), if_pos (.inl (by omega))]])
  rw [HE.out]
  go_enter Tryz.func134, Tryz.ntmps134
  go_wp2_with fail
  go_ret2
  exact ⟨rfl, Below.refl _ _⟩
 have q4 : ¬ (s.size : Int) < 4 := by omega
 by_cases a120 : s[1].toNat = 120
 rotate_left
 ·have q120 : (((s[1].toNat : Nat) : Int) != 120) = true := by simp; omega
  have HE := Lib.hid (show escR s.data.toList = _ from by unfold escR; rw [show escV s.data.toList = none from by (have hln : s.data.toList.length = s.size := by simp); have hx := HX1.out; unfold escV; rw [if_neg (by omega), if_neg (by omega), if_neg (by omega), if_neg (by omega), if_neg (by omega), if_pos (.inr (.inl (by omega)))]])
  rw [HE.out]
  go_enter Tryz.func134, Tryz.ntmps134
  go_wp2_with fail
  go_ret2
  exact ⟨rfl, Below.refl _ _⟩
 have q120 : (((s[1].toNat : Nat) : Int) != 120) = false := by simp; omega
 have g2 : 2 < s.size := by omega
 have g3 : 3 < s.size := by omega
 have HX2 : Hid (s[2].toNat = nb s.data.toList 2) := Lib.hid (nb_get s 2 (by omega))
 have HX3 : Hid (s[3].toNat = nb s.data.toList 3) := Lib.hid (nb_get s 3 (by omega))
 have A120 := Lib.hid a120
 clear a120
 have hc2 : s[2].toNat < 256 := by have := s[2].toNat_lt; omega
 have hc3 : s[3].toNat < 256 := by have := s[3].toNat_lt; omega
 have D2 := Lib.hid (sdigit_any s[2].toNat hc2)
 have D3 := Lib.hid (sdigit_any s[3].toNat hc3)
 have l2 := hexv_lt s[2].toNat
 have l3 := hexv_lt s[3].toNat
 by_cases n2 : hexv s[2].toNat < 0
 ·have n2x := n2
  have HE := Lib.hid (show escR s.data.toList = _ from by unfold escR; rw [show escV s.data.toList = none from by (have hln : s.data.toList.length = s.size := by simp); have hx := HX1.out; have hx2 := HX2.out; have hx3 := HX3.out; have a120 := A120.out; unfold escV; rw [if_neg (by omega), if_neg (by omega), if_neg (by omega), if_neg (by omega), if_neg (by omega), if_pos (.inr (.inr (.inl (by rw [← hx2]; exact n2))))]])
  rw [HE.out]
  go_enter Tryz.func134, Tryz.ntmps134
  go_wp2_with fail
  refine (D2.out w).mono ?_
  rintro e w' ⟨rfl, rfl⟩
  go_wp2_with fail
  go_ret2
  exact ⟨rfl, Below.refl _ _⟩
 by_cases n3 : hexv s[3].toNat < 0
 ·have n3x := n3
  have HE := Lib.hid (show escR s.data.toList = _ from by unfold escR; rw [show escV s.data.toList = none from by (have hln : s.data.toList.length = s.size := by simp); have hx := HX1.out; have hx2 := HX2.out; have hx3 := HX3.out; have a120 := A120.out; unfold escV; rw [if_neg (by omega), if_neg (by omega), if_neg (by omega), if_neg (by omega), if_neg (by omega), if_pos (.inr (.inr (.inr (by rw [← hx3]; exact n3))))]])
  rw [HE.out]
  go_enter Tryz.func134, Tryz.ntmps134
  go_wp2_with fail
  refine (D2.out w).mono ?_
  rintro e w' ⟨rfl, rfl⟩
  go_wp2_with fail
  refine (D3.out w).mono ?_
  rintro e w' ⟨rfl, rfl⟩
  go_wp2_with fail
  go_ret2
  exact ⟨rfl, Below.refl _ _⟩
 ·have n4 : 0 ≤ hexv s[2].toNat := by omega
  have n5 : 0 ≤ hexv s[3].toNat := by omega
  have HE := Lib.hid (show escR s.data.toList = _ from by unfold escR; rw [show escV s.data.toList = some (UInt8.ofNat (hexv s[2].toNat * (16 : Int) + hexv s[3].toNat).toNat, (4 : Nat)) from by (have hln : s.data.toList.length = s.size := by simp); have hx := HX1.out; have hx2 := HX2.out; have hx3 := HX3.out; have a120 := A120.out; unfold escV; rw [if_neg (by omega), if_neg (by omega), if_neg (by omega), if_neg (by omega), if_neg (by omega), if_neg (by rw [← hx2, ← hx3]; omega), ← hx2, ← hx3]])
  rw [HE.out]
  go_enter Tryz.func134, Tryz.ntmps134
  go_wp2_with fail
  refine (D2.out w).mono ?_
  rintro e w' ⟨rfl, rfl⟩
  go_wp2_with fail
  refine (D3.out w).mono ?_
  rintro e w' ⟨rfl, rfl⟩
  go_wp2_with fail
  go_quiet ((exact Calls.quiet_of_same (sdigit_any2 _ (by assumption) _)))
  have HO := Lib.hid (or_of n4 l2 n5 l3)
  go_wp2_with fail
  go_ret2
  exact ⟨by rw [HO.out]; rfl, below_drewN _ _⟩
end Go.Proofs.YtndhpdclpgemfaaGreat

/- Parts S7, Shelf, S8, S9, S10 of this seat (pruned, scripts that are alike kept once as default arguments: q1, q2, ..). Conditions: each says its own. -/
import Derived.Laws.Concat
import Derived.Shelf.Strings.BuilderK
import Derived.Shelf.Strings.BuilderRune
import Derived.Shelf.Strings.Prefix
import Derived.Shelf.Strings.Search1
import Derived.Shelf.Strings.OnBuilder
import Derived.Shelf.Small.Strs
import Derived.Test.YtndhpdclpgemfaaGreatProg
import Derived.WalkKit
import Derived.BigCall
import Derived.Outline
import Derived.BigQuiet
import Derived.Test.YtndhpdclpgemfaaGreatY7
namespace Go.Proofs.YtndhpdclpgemfaaGreat
open Go.RowKit
set_option linter.unusedSimpArgs false
set_option linter.unusedVariables false
theorem strOf_append (p q : List UInt8) : strOf p ++ strOf q = strOf (p ++ q) := by
 apply ByteArray.ext; simp [strOf]
theorem extract_strOf (s : ByteArray) (k n : Nat) (h : k + n ≤ s.size) : s.extract k (k + n) = strOf ((s.data.toList.drop k).take n) := by
 apply ByteArray.ext
 apply Array.ext'
 simp [strOf]
theorem add_of (p q : List UInt8) (B : ByteArray) (hB : strOf q = B) (u : World) (h : p.length + q.length ≤ 9223372036854775807) {r : List UInt8} (hr : p ++ q = r) : (Op.stringOp .add (strOf p) B).run Tryz.prog u = .ok (.string (strOf r)) u := by
 subst hr
 subst hB
 rw [← strOf_append]
 exact run_string_add_sum (P := Tryz.prog) (w := u) (strOf p) (strOf q) (by rw [strOf_size, strOf_size]; exact h)
theorem Sq42 {P : Prop} (h : P := by
 first
 |(
  guard_hyp z42a
  have q2 : (((s[k].toNat : Nat) : Int) == 127) = true := by simp; omega
  have HPv := Lib.hid (HP.out.trans (if_pos (.inr a2)))
  have n1 := Lib.hid (h7 (by omega))
  clear h7 a2)
 |(
  guard_hyp z42c
  have q1 : ((n : Int) == 0) = true := by simp; omega
  have HPv := Lib.hid (HP.out.trans (if_pos (.inl a1)))
  rw [if_pos a1] at HT)
 |(
  have q6 : (s[k].toNat : Int) < 32 := by omega
  have HPv := Lib.hid (HP.out.trans (if_pos a5))
  clear h7)
 have hP : 39 :: d ++ [92, 120] ++ hx2 s[k].toNat = 39 :: Y := by rw [← HY.out, HPv.out]; simp
 obtain ⟨X, hX⟩ : ∃ X, 39 :: d ++ [92, 120] = X := ⟨_, rfl⟩
 have hXl : X.length ≤ 4 * k + 10 := by rw [← hX]; simp; omega
 have ha1 := fun u => add_of (39 :: d) [92, 120] ⟨#[92, 120]⟩ rfl u (by simp; omega) hX
 rw [hX] at hP
 have ha2 := fun u => add_of X (hx2 s[k].toNat) _ rfl u (by unfold hx2; simp; omega) hP
 have HH := Lib.hid (hex_any s[k].toNat hc wr)
 clear hX hXl hP
 go_wp2_with fail
 refine HS.out.mono ?_; rintro e w' ⟨rfl, rfl⟩
 go_wp2_with fail
 refine HH.out.mono ?_; rintro e w8 ⟨rfl, hb8⟩
 have HB8 := Lib.hid hb8
 clear hb8
 go_wp2_with fail
 go_roundw
 first
 | (guard_hyp z42a; case rel => exact ⟨k + 1, Y, by omega, by go_num, rfl, Lib.hid (by have := NX.out; rw [HT.out, n1.out] at this; simpa using this), below_step HB.out rfl HB8.out⟩)
 | (guard_hyp z42b; case rel => exact ⟨k + n, Y, by omega, by go_num, rfl, Lib.hid (by have := NX.out; rw [HT.out] at this; simpa using this), below_step HB.out rfl HB8.out⟩)
 | (case rel => exact ⟨k + 1, Y, by omega, by go_num, rfl, Lib.hid (by have := NX.out; rw [HT.out] at this; simpa using this), below_step HB.out rfl HB8.out⟩)
 case measure => simp [intOf]; omega) : P := h
set_option maxRecDepth 20000 in
set_option maxHeartbeats 2000000 in
theorem rquote_any (s : ByteArray) (W : World) (hs : s.size ≤ 1099511627776) :
    Calls Tryz.prog 40 #[.string s] W fun e w' => e = .returned (.string (strOf (39 :: (quoteL s.data.toList ++ [39])))) ∧ Below W.heap.size W w' := by
 obtain ⟨l, hl⟩ := nam s.data.toList
 have hll : l.length = s.size := by rw [← hl]; simp
 go_enter Tryz.func40, Tryz.ntmps40
 go_wp2_with fail
 go_loopw [3, 4] (fun o i wr => ∃ (k : Nat) (d : List UInt8), k ≤ s.size ∧ i = .int .i64 k ∧ o = .string (strOf (39 :: d)) ∧ Hid (DoneQ s.data.toList k d) ∧ Below W.heap.size W wr) (fun _ i _ => s.size - (intOf i).toNat)
 case atStart => exact ⟨0, [], Nat.zero_le _, rfl, rfl, Lib.hid (doneQ_zero _), Below.refl _ _⟩
 case round =>
  obtain ⟨k, d, hk, rfl, rfl, hd, hb⟩ := hrel
  have HB := Lib.hid hb
  clear hb
  have hdl := hd.out.2.1
  by_cases hlt : k < s.size
  ·have hx := nb_get s k hlt
   have hc : s[k].toNat < 256 := by have := s[k].toNat_lt; omega
   have HS := Lib.hid (sign_any s k wr (by omega) (by omega))
   have NX := Lib.hid (doneQ_step hd.out (by simp; exact hlt))
   have hn4 := sg_le (l := s.data.toList.drop k)
   have HP : Hid (pieceQ (s.data.toList.drop k) = if sg (s.data.toList.drop k) = 0 ∨ s[k].toNat = 127 then [92, 120] ++ hx2 s[k].toNat
       else if s[k].toNat = 39 ∨ s[k].toNat = 92 then [92, UInt8.ofNat s[k].toNat]
       else if s[k].toNat = 10 then [92, 110] else if s[k].toNat = 9 then [92, 116] else if s[k].toNat = 13 then [92, 114]
       else if s[k].toNat < 32 then [92, 120] ++ hx2 s[k].toNat else (s.data.toList.drop k).take (sg (s.data.toList.drop k))) := Lib.hid (by unfold pieceQ; rw [hx, nb_drop, Nat.add_zero])
   have HT : Hid (stepQ (s.data.toList.drop k) = if sg (s.data.toList.drop k) = 0 then 1 else sg (s.data.toList.drop k)) := Lib.hid rfl
   have hq : (k : Int) < s.size := by omega
   have h7 : s[k].toNat < 128 → sg (s.data.toList.drop k) = 1 := fun h => sg_one.2 ⟨by simp; omega, by rw [nb_drop, Nat.add_zero, ← hx]; exact h⟩
   have hone : (s.data.toList.drop k).take 1 = [UInt8.ofNat s[k].toNat] := by rw [List.drop_eq_getElem_cons (by simpa using hlt)]; simp; rfl
   have HX1 := Lib.hid (extract_strOf s k 1 (by omega))
   rw [hone] at HX1
   clear hone
   have HXn := Lib.hid (extract_strOf s k (sg (s.data.toList.drop k)) (by have := hn4.2; simp at this; omega))
   have hnl : ((s.data.toList.drop k).take (sg (s.data.toList.drop k))).length ≤ 4 := by simp; omega
   generalize sg (s.data.toList.drop k) = n at *
   generalize (s.data.toList.drop k).take n = S at *
   generalize pieceQ (s.data.toList.drop k) = P at *
   generalize stepQ (s.data.toList.drop k) = m at *
   obtain ⟨Y, hY⟩ := nam (d ++ P)
   rw [hY] at NX
   have HY := Lib.hid hY
   have hkn : n ≤ 4 ∧ k + n ≤ s.size := by have := hn4.2; simp at this; omega
   clear hl hll hY hx hn4
   by_cases a1 : n = 0
   ·have z42c := trivial
    exact Sq42
   have q1 : ((n : Int) == 0) = false := by simp; omega
   rw [if_neg a1] at HT
   by_cases a2 : s[k].toNat = 127
   ·have z42a := trivial
    exact Sq42
   have q2 : (((s[k].toNat : Nat) : Int) == 127) = false := by simp; omega
   have HP := Lib.hid (HP.out.trans (if_neg (by omega)))
   by_cases a3 : s[k].toNat = 39 ∨ s[k].toNat = 92
   ·skip
    by_cases a4 : s[k].toNat = 39
    ·have q3 : (((s[k].toNat : Nat) : Int) == 39) = true := by simp; omega
     have HPv := Lib.hid (HP.out.trans (if_pos a3))
     have n1 := Lib.hid (h7 (by omega))
     obtain ⟨X, hX⟩ : ∃ X, 39 :: d ++ [92] = X := ⟨_, rfl⟩
     have hXl : X.length ≤ 4 * k + 10 := by rw [← hX]; simp; omega
     have hP : X ++ [UInt8.ofNat s[k].toNat] = 39 :: Y := by rw [← HY.out, HPv.out, ← hX]; simp
     have ha1 := fun u => add_of (39 :: d) [92] ⟨#[92]⟩ rfl u (by simp; omega) hX
     have ha2 := fun u => add_of X [UInt8.ofNat s[k].toNat] _ HX1.out.symm u (by simp; omega) hP
     clear hX hXl hP h7 a3 a4
     go_wp2_with fail
     refine HS.out.mono ?_; rintro e w' ⟨rfl, rfl⟩
     go_wp2_with fail
     go_roundw
     case rel => exact ⟨k + n, Y, by omega, by go_num, rfl, Lib.hid (by have := NX.out; rw [HT.out] at this; simpa using this), HB.out⟩
     case measure => simp [intOf]; omega
    have q3 : (((s[k].toNat : Nat) : Int) == 39) = false := by simp; omega
    have q4 : (((s[k].toNat : Nat) : Int) == 92) = true := by simp; omega
    have HPv := Lib.hid (HP.out.trans (if_pos a3))
    have n1 := Lib.hid (h7 (by omega))
    obtain ⟨X, hX⟩ : ∃ X, 39 :: d ++ [92] = X := ⟨_, rfl⟩
    have hXl : X.length ≤ 4 * k + 10 := by rw [← hX]; simp; omega
    have hP : X ++ [UInt8.ofNat s[k].toNat] = 39 :: Y := by rw [← HY.out, HPv.out, ← hX]; simp
    have ha1 := fun u => add_of (39 :: d) [92] ⟨#[92]⟩ rfl u (by simp; omega) hX
    have ha2 := fun u => add_of X [UInt8.ofNat s[k].toNat] _ HX1.out.symm u (by simp; omega) hP
    clear hX hXl hP h7 a3
    go_wp2_with fail
    refine HS.out.mono ?_; rintro e w' ⟨rfl, rfl⟩
    go_wp2_with fail
    go_roundw
    case rel => exact ⟨k + n, Y, by omega, by go_num, rfl, Lib.hid (by have := NX.out; rw [HT.out] at this; simpa using this), HB.out⟩
    case measure => simp [intOf]; omega
   have q3 : (((s[k].toNat : Nat) : Int) == 39) = false := by simp; omega
   have q4 : (((s[k].toNat : Nat) : Int) == 92) = false := by simp; omega
   have HP := Lib.hid (HP.out.trans (if_neg a3))
   by_cases b10 : s[k].toNat = 10
   ·have q5 : (((s[k].toNat : Nat) : Int) == 10) = true := by simp; omega
    have HPv := Lib.hid (HP.out.trans (if_pos b10))
    have ha1 := fun u => add_of (39 :: d) [92, 110] ⟨#[92, 110]⟩ rfl u (by simp; omega) (r := 39 :: Y) (by rw [← HY.out, HPv.out]; simp)
    go_wp2_with fail
    refine HS.out.mono ?_; rintro e w' ⟨rfl, rfl⟩
    go_wp2_with fail
    go_roundw
    case rel => exact ⟨k + n, Y, by omega, by go_num, rfl, Lib.hid (by have := NX.out; rw [HT.out] at this; simpa using this), HB.out⟩
    case measure => simp [intOf]; omega
   have r10 : (((s[k].toNat : Nat) : Int) == 10) = false := by simp; omega
   have HP := Lib.hid (HP.out.trans (if_neg b10))
   by_cases b9 : s[k].toNat = 9
   ·have q5 : (((s[k].toNat : Nat) : Int) == 9) = true := by simp; omega
    have HPv := Lib.hid (HP.out.trans (if_pos b9))
    have ha1 := fun u => add_of (39 :: d) [92, 116] ⟨#[92, 116]⟩ rfl u (by simp; omega) (r := 39 :: Y) (by rw [← HY.out, HPv.out]; simp)
    go_wp2_with fail
    refine HS.out.mono ?_; rintro e w' ⟨rfl, rfl⟩
    go_wp2_with fail
    go_roundw
    case rel => exact ⟨k + n, Y, by omega, by go_num, rfl, Lib.hid (by have := NX.out; rw [HT.out] at this; simpa using this), HB.out⟩
    case measure => simp [intOf]; omega
   have r9 : (((s[k].toNat : Nat) : Int) == 9) = false := by simp; omega
   have HP := Lib.hid (HP.out.trans (if_neg b9))
   by_cases b13 : s[k].toNat = 13
   ·have q5 : (((s[k].toNat : Nat) : Int) == 13) = true := by simp; omega
    have HPv := Lib.hid (HP.out.trans (if_pos b13))
    have ha1 := fun u => add_of (39 :: d) [92, 114] ⟨#[92, 114]⟩ rfl u (by simp; omega) (r := 39 :: Y) (by rw [← HY.out, HPv.out]; simp)
    go_wp2_with fail
    refine HS.out.mono ?_; rintro e w' ⟨rfl, rfl⟩
    go_wp2_with fail
    go_roundw
    case rel => exact ⟨k + n, Y, by omega, by go_num, rfl, Lib.hid (by have := NX.out; rw [HT.out] at this; simpa using this), HB.out⟩
    case measure => simp [intOf]; omega
   have r13 : (((s[k].toNat : Nat) : Int) == 13) = false := by simp; omega
   have HP := Lib.hid (HP.out.trans (if_neg b13))
   by_cases a5 : s[k].toNat < 32
   ·have z42b := trivial
    exact Sq42
   ·have q6 : ¬ (s[k].toNat : Int) < 32 := by omega
    have HPv := Lib.hid (HP.out.trans (if_neg a5))
    have ha1 := fun u => add_of (39 :: d) S _ HXn.out.symm u (by simp; omega) (r := 39 :: Y) (by rw [← HY.out, HPv.out]; simp)
    clear h7 hnl
    go_wp2_with fail
    refine HS.out.mono ?_; rintro e w' ⟨rfl, rfl⟩
    go_wp2_with fail
    go_roundw
    case rel => exact ⟨k + n, Y, by omega, by go_num, rfl, Lib.hid (by have := NX.out; rw [HT.out] at this; simpa using this), HB.out⟩
    case measure => simp [intOf]; omega
  ·have HE := Lib.hid (doneQ_end hd.out (by simp; omega))
   have hadd := fun u => add_of (39 :: d) [39] ⟨#[39]⟩ rfl u (by simp; omega) (r := 39 :: (d ++ [39])) rfl
   have hq : ¬ (k : Int) < s.size := by omega
   clear hl hll
   go_wp2_with fail
   go_ret
   exact ⟨by rw [← HE.out]; rfl, HB.out⟩
end Go.Proofs.YtndhpdclpgemfaaGreat
namespace Go.Proofs.YtndhpdclpgemfaaGreat
open Go.Shelf Go.Proofs Go.RowKit
def shRen : Go.Shelf.Ren := ⟨fun | 99 => 93 | 137 => 149 | 143 => 135 | 144 => 101 | 156 => 185 | 165 => 187 | 166 => 26 | 167 => 24 | 168 => 92 | 169 => 28 | 206 => 130 | 217 => 150 | 219 => 146 | 224 => 152 | 225 => 151 | 240 => 57 | 241 => 188 | 242 => 129 | 266 => 156 | 267 => 153 | 276 => 110 | 277 => 189 | 278 => 144 | 314 => 157 | n => n, fun | 0 => 0 | 3 => 3 | 4 => 4 | 5 => 5 | 9 => 9 | 20 => 20 | 21 => 21 | 31 => 31 | 37 => 72 | 46 => 170 | 51 => 184 | 70 => 71 | 72 => 74 | 75 => 76 | 76 => 86 | 80 => 89 | 127 => 129 | 146 => 188 | 164 => 159 | n => n, fun | n => n⟩
theorem shLays168 : Go.Proofs.Lays.n168 Tryz.prog shRen := {
  mixed := by kernel_rfl
  f168 := Tryz.func92.trans (congrArg some (by kernel_rfl))
  f240 := Tryz.func57.trans (congrArg some (by kernel_rfl))
  f242 := Tryz.func129.trans (congrArg some (by kernel_rfl))
  f276 := Tryz.func110.trans (congrArg some (by kernel_rfl))
  f278 := Tryz.func144.trans (congrArg some (by kernel_rfl))
  t0 := Tryz.underlying0
  a0 := Tryz.isAgg0
  z0 := Tryz.sizeOf0
  v0 := Tryz.zeroValue0
  t3 := Tryz.underlying3
  a3 := Tryz.isAgg3
  z3 := Tryz.sizeOf3
  v3 := Tryz.zeroValue3
  t4 := Tryz.underlying4
  a4 := Tryz.isAgg4
  z4 := Tryz.sizeOf4
  v4 := Tryz.zeroValue4
  t5 := Tryz.underlying5
  a5 := Tryz.isAgg5
  z5 := Tryz.sizeOf5
  v5 := Tryz.zeroValue5
  t9 := Tryz.underlying9
  a9 := Tryz.isAgg9
  z9 := Tryz.sizeOf9
  v9 := Tryz.zeroValue9
  t20 := Tryz.underlying20
  a20 := Tryz.isAgg20
  z20 := Tryz.sizeOf20
  v20 := Tryz.zeroValue20
  t21 := Tryz.underlying21
  a21 := Tryz.isAgg21
  z21 := Tryz.sizeOf21
  v21 := Tryz.zeroValue21
  t37 := Tryz.underlying72
  a37 := Tryz.isAgg72
  z37 := Tryz.sizeOf72
  v37 := Tryz.zeroValue72
  t46 := Tryz.underlying170
  a46 := Tryz.isAgg170
  z46 := Tryz.sizeOf170
  v46 := Tryz.zeroValue170
  t51 := Tryz.underlying184
  a51 := Tryz.isAgg184
  z51 := Tryz.sizeOf184
  v51 := Tryz.zeroValue184
  t70 := Tryz.underlying71
  a70 := Tryz.isAgg71
  z70 := Tryz.sizeOf71
  v70 := Tryz.zeroValue71
  t72 := Tryz.underlying74
  a72 := Tryz.isAgg74
  z72 := Tryz.sizeOf74
  v72 := Tryz.zeroValue74
  t75 := Tryz.underlying76
  a75 := Tryz.isAgg76
  z75 := Tryz.sizeOf76
  v75 := Tryz.zeroValue76
  t164 := Tryz.underlying159
  a164 := Tryz.isAgg159
  z164 := Tryz.sizeOf159
  v164 := Tryz.zeroValue159
}
theorem shLays167 : Go.Proofs.Lays.n167 Tryz.prog shRen := {
  mixed := by kernel_rfl
  f167 := Tryz.func24.trans (congrArg some (by kernel_rfl))
  f240 := Tryz.func57.trans (congrArg some (by kernel_rfl))
  f276 := Tryz.func110.trans (congrArg some (by kernel_rfl))
  t0 := Tryz.underlying0
  a0 := Tryz.isAgg0
  z0 := Tryz.sizeOf0
  v0 := Tryz.zeroValue0
  t4 := Tryz.underlying4
  a4 := Tryz.isAgg4
  z4 := Tryz.sizeOf4
  v4 := Tryz.zeroValue4
  t5 := Tryz.underlying5
  a5 := Tryz.isAgg5
  z5 := Tryz.sizeOf5
  v5 := Tryz.zeroValue5
  t9 := Tryz.underlying9
  a9 := Tryz.isAgg9
  z9 := Tryz.sizeOf9
  v9 := Tryz.zeroValue9
  t20 := Tryz.underlying20
  a20 := Tryz.isAgg20
  z20 := Tryz.sizeOf20
  v20 := Tryz.zeroValue20
  t37 := Tryz.underlying72
  a37 := Tryz.isAgg72
  z37 := Tryz.sizeOf72
  v37 := Tryz.zeroValue72
  t70 := Tryz.underlying71
  a70 := Tryz.isAgg71
  z70 := Tryz.sizeOf71
  v70 := Tryz.zeroValue71
  t72 := Tryz.underlying74
  a72 := Tryz.isAgg74
  z72 := Tryz.sizeOf74
  v72 := Tryz.zeroValue74
  t75 := Tryz.underlying76
  a75 := Tryz.isAgg76
  z75 := Tryz.sizeOf76
  v75 := Tryz.zeroValue76
  t164 := Tryz.underlying159
  a164 := Tryz.isAgg159
  z164 := Tryz.sizeOf159
  v164 := Tryz.zeroValue159
}
theorem shLays166 : Go.Proofs.Lays.n166 Tryz.prog shRen := {
  mixed := by kernel_rfl
  f166 := Tryz.func26.trans (congrArg some (by kernel_rfl))
  f240 := Tryz.func57.trans (congrArg some (by kernel_rfl))
  f276 := Tryz.func110.trans (congrArg some (by kernel_rfl))
  t0 := Tryz.underlying0
  a0 := Tryz.isAgg0
  z0 := Tryz.sizeOf0
  v0 := Tryz.zeroValue0
  t3 := Tryz.underlying3
  a3 := Tryz.isAgg3
  z3 := Tryz.sizeOf3
  v3 := Tryz.zeroValue3
  t4 := Tryz.underlying4
  a4 := Tryz.isAgg4
  z4 := Tryz.sizeOf4
  v4 := Tryz.zeroValue4
  t9 := Tryz.underlying9
  a9 := Tryz.isAgg9
  z9 := Tryz.sizeOf9
  v9 := Tryz.zeroValue9
  t20 := Tryz.underlying20
  a20 := Tryz.isAgg20
  z20 := Tryz.sizeOf20
  v20 := Tryz.zeroValue20
  t37 := Tryz.underlying72
  a37 := Tryz.isAgg72
  z37 := Tryz.sizeOf72
  v37 := Tryz.zeroValue72
  t70 := Tryz.underlying71
  a70 := Tryz.isAgg71
  z70 := Tryz.sizeOf71
  v70 := Tryz.zeroValue71
  t72 := Tryz.underlying74
  a72 := Tryz.isAgg74
  z72 := Tryz.sizeOf74
  v72 := Tryz.zeroValue74
  t75 := Tryz.underlying76
  a75 := Tryz.isAgg76
  z75 := Tryz.sizeOf76
  v75 := Tryz.zeroValue76
  t164 := Tryz.underlying159
  a164 := Tryz.isAgg159
  z164 := Tryz.sizeOf159
  v164 := Tryz.zeroValue159
}
theorem shLays169 : Go.Proofs.Lays.n169 Tryz.prog shRen := {
  mixed := by kernel_rfl
  f169 := Tryz.func28.trans (congrArg some (by kernel_rfl))
  t0 := Tryz.underlying0
  a0 := Tryz.isAgg0
  z0 := Tryz.sizeOf0
  v0 := Tryz.zeroValue0
  t3 := Tryz.underlying3
  a3 := Tryz.isAgg3
  z3 := Tryz.sizeOf3
  v3 := Tryz.zeroValue3
  t9 := Tryz.underlying9
  a9 := Tryz.isAgg9
  z9 := Tryz.sizeOf9
  v9 := Tryz.zeroValue9
  t37 := Tryz.underlying72
  a37 := Tryz.isAgg72
  z37 := Tryz.sizeOf72
  v37 := Tryz.zeroValue72
  t70 := Tryz.underlying71
  a70 := Tryz.isAgg71
  z70 := Tryz.sizeOf71
  v70 := Tryz.zeroValue71
  t72 := Tryz.underlying74
  a72 := Tryz.isAgg74
  z72 := Tryz.sizeOf74
  v72 := Tryz.zeroValue74
  t127 := Tryz.underlying129
  a127 := Tryz.isAgg129
  z127 := Tryz.sizeOf129
  v127 := Tryz.zeroValue129
}
theorem shLays99 : Go.Proofs.Lays.n99 Tryz.prog shRen := {
  mixed := by kernel_rfl
  f99 := Tryz.func93.trans (congrArg some (by kernel_rfl))
  f206 := Tryz.func130.trans (congrArg some (by kernel_rfl))
  t3 := Tryz.underlying3
  a3 := Tryz.isAgg3
  z3 := Tryz.sizeOf3
  v3 := Tryz.zeroValue3
  t4 := Tryz.underlying4
  a4 := Tryz.isAgg4
  z4 := Tryz.sizeOf4
  v4 := Tryz.zeroValue4
  t9 := Tryz.underlying9
  a9 := Tryz.isAgg9
  z9 := Tryz.sizeOf9
  v9 := Tryz.zeroValue9
}
theorem shLays137 : Go.Proofs.Lays.n137 Tryz.prog shRen := {
  mixed := by kernel_rfl
  f137 := Tryz.func149.trans (congrArg some (by kernel_rfl))
  f217 := Tryz.func150.trans (congrArg some (by kernel_rfl))
  f266 := Tryz.func156.trans (congrArg some (by kernel_rfl))
  t3 := Tryz.underlying3
  a3 := Tryz.isAgg3
  z3 := Tryz.sizeOf3
  v3 := Tryz.zeroValue3
  t5 := Tryz.underlying5
  a5 := Tryz.isAgg5
  z5 := Tryz.sizeOf5
  v5 := Tryz.zeroValue5
  t9 := Tryz.underlying9
  a9 := Tryz.isAgg9
  z9 := Tryz.sizeOf9
  v9 := Tryz.zeroValue9
}
theorem shLays156 : Go.Proofs.Lays.n156 Tryz.prog shRen := {
  mixed := by kernel_rfl
  f156 := Tryz.func185.trans (congrArg some (by kernel_rfl))
  f165 := Tryz.func187.trans (congrArg some (by kernel_rfl))
  f166 := Tryz.func26.trans (congrArg some (by kernel_rfl))
  f169 := Tryz.func28.trans (congrArg some (by kernel_rfl))
  f240 := Tryz.func57.trans (congrArg some (by kernel_rfl))
  f241 := Tryz.func188.trans (congrArg some (by kernel_rfl))
  f276 := Tryz.func110.trans (congrArg some (by kernel_rfl))
  f277 := Tryz.func189.trans (congrArg some (by kernel_rfl))
  t0 := Tryz.underlying0
  a0 := Tryz.isAgg0
  z0 := Tryz.sizeOf0
  v0 := Tryz.zeroValue0
  t3 := Tryz.underlying3
  a3 := Tryz.isAgg3
  z3 := Tryz.sizeOf3
  v3 := Tryz.zeroValue3
  t4 := Tryz.underlying4
  a4 := Tryz.isAgg4
  z4 := Tryz.sizeOf4
  v4 := Tryz.zeroValue4
  t9 := Tryz.underlying9
  a9 := Tryz.isAgg9
  z9 := Tryz.sizeOf9
  v9 := Tryz.zeroValue9
  t20 := Tryz.underlying20
  a20 := Tryz.isAgg20
  z20 := Tryz.sizeOf20
  v20 := Tryz.zeroValue20
  t31 := Tryz.underlying31
  a31 := Tryz.isAgg31
  z31 := Tryz.sizeOf31
  v31 := Tryz.zeroValue31
  t37 := Tryz.underlying72
  a37 := Tryz.isAgg72
  z37 := Tryz.sizeOf72
  v37 := Tryz.zeroValue72
  t70 := Tryz.underlying71
  a70 := Tryz.isAgg71
  z70 := Tryz.sizeOf71
  v70 := Tryz.zeroValue71
  t72 := Tryz.underlying74
  a72 := Tryz.isAgg74
  z72 := Tryz.sizeOf74
  v72 := Tryz.zeroValue74
  t75 := Tryz.underlying76
  a75 := Tryz.isAgg76
  z75 := Tryz.sizeOf76
  v75 := Tryz.zeroValue76
  t76 := Tryz.underlying86
  a76 := Tryz.isAgg86
  z76 := Tryz.sizeOf86
  v76 := Tryz.zeroValue86
  t127 := Tryz.underlying129
  a127 := Tryz.isAgg129
  z127 := Tryz.sizeOf129
  v127 := Tryz.zeroValue129
  t164 := Tryz.underlying159
  a164 := Tryz.isAgg159
  z164 := Tryz.sizeOf159
  v164 := Tryz.zeroValue159
}
theorem shExtra : Builder.Extra Tryz.prog shRen := {
  sizeBuilder := by kernel_rfl
  liesBuilder := by kernel_rfl
  t5 := Tryz.underlying5
  a5 := Tryz.isAgg5
  z5 := Tryz.sizeOf5
  v5 := Tryz.zeroValue5
  infoByte := by kernel_rfl
  cellsByte := by kernel_rfl
  sizeByte := by kernel_rfl
  neB5 := by decide }
end Go.Proofs.YtndhpdclpgemfaaGreat
namespace Go.Proofs.YtndhpdclpgemfaaGreat
open Go.RowKit Go.Shelf
set_option linter.unusedSimpArgs false
set_option linter.unusedVariables false
def Bld (B b : Nat) (l : List UInt8) (w : World) : Prop := Lib.IsBuilderF 74 5 B b (Lib.byteCells l) w
def Wrote (B b : Nat) (l : List UInt8) (w w' : World) : Prop := Bld B b l w' ∧ Below B w w' ∧ Lib.OthersKept 5 (some b) w w'
theorem bld_byte (B b : Nat) (l : List UInt8) (c : Nat) (w : World) (h : Bld B b l w) (hl : l.length + 1 ≤ 140737488355328) (hB : B ≤ w.heap.size) (hc : c < 256) :
    Calls Tryz.prog 24 #[.pointer (some ⟨b, 0, none⟩), .int .u8 c] w fun e w' => e = .returned .nilIface ∧ Wrote B b (l ++ [UInt8.ofNat c]) w w' := by
 refine (Any.Builder_WriteByte_k { shLays167 with } shExtra B b (Lib.byteCells l) c w h (by rw [Lib.byteCells_length]; exact hl) hB).mono ?_
 rintro e w' ⟨rfl, h1, b1, k1⟩
 refine ⟨rfl, Or.inr ?_, b1, k1⟩
 rw [Lib.byteCells_append, show Lib.byteCells [UInt8.ofNat c] = [.int .u8 c] from by simp [Lib.byteCells]; omega]
 exact h1
theorem bld_string (B b : Nat) (l : List UInt8) (s : ByteArray) (w : World) (h : Bld B b l w) (hl : l.length + s.size ≤ 140737488355328) (hB : B ≤ w.heap.size) :
    Calls Tryz.prog 26 #[.pointer (some ⟨b, 0, none⟩), .string s] w fun e w' => e = .returned (.tuple #[.int .i64 s.size, .nilIface]) ∧ Wrote B b (l ++ s.data.toList) w w' := by
 refine (Any.Builder_WriteString_k { shLays166 with } shExtra B b (Lib.byteCells l) s w h (by rw [Lib.byteCells_length]; exact hl) hB).mono ?_
 rintro e w' ⟨rfl, h1, b1, k1⟩
 refine ⟨rfl, Or.inr ?_, b1, k1⟩
 rw [Lib.byteCells_append]
 exact h1
theorem bld_rune (B b : Nat) (l : List UInt8) (r : Nat) (w : World) (h : Bld B b l w) (hl : l.length + 4 ≤ 140737488355328) (hB : B ≤ w.heap.size) (hr : r ≤ 2147483647) :
    Calls Tryz.prog 92 #[.pointer (some ⟨b, 0, none⟩), .int .i32 r] w fun e w' => e = .returned (.tuple #[.int .i64 (Lib.runeCells r).length, .nilIface]) ∧ Wrote B b (l ++ Lib.encodeRune r) w w' := by
 refine (Any.Builder_WriteRune_k { shLays168 with } shExtra B b (Lib.byteCells l) r (by omega) (by omega) w h (by rw [Lib.byteCells_length]; exact hl) hB).mono ?_
 rintro e w' ⟨rfl, h1, b1, k1⟩
 refine ⟨rfl, Or.inr ?_, b1, k1⟩
 rw [Lib.byteCells_append, Lib.byteCells_encodeRune]
 exact h1
theorem bld_str (B b : Nat) (l : List UInt8) (w : World) (h : Bld B b l w) (hB : B ≤ w.heap.size) :
    Calls Tryz.prog 28 #[.pointer (some ⟨b, 0, none⟩)] w fun e w' => e = .returned (.string (strOf l)) ∧ Wrote B b l w w' := by
 refine (Any.Builder_String_any_k { shLays169 with } shExtra B b l w h hB).mono ?_
 rintro e w' ⟨rfl, h1, b1, k1⟩
 exact ⟨rfl, h1, b1, k1⟩
theorem Wrote.trans {B b : Nat} {l l' : List UInt8} {w w' w'' : World} (h : Wrote B b l w w') (k : Wrote B b l' w' w'') : Wrote B b l' w w'' := ⟨k.1, h.2.1.trans k.2.1, h.2.2.trans k.2.2⟩
theorem Wrote.size {B b : Nat} {l : List UInt8} {w w' : World} (h : Wrote B b l w w') : B ≤ w.heap.size → B ≤ w'.heap.size := fun k => Nat.le_trans k h.2.1.size
set_option maxRecDepth 20000 in
theorem coded_any (B b : Nat) (l : List UInt8) (c : Nat) (w : World) (h : Bld B b l w) (hl : l.length + 4 ≤ 140737488355328) (hB : B ≤ w.heap.size) (hc : c < 256) :
    Calls Tryz.prog 94 #[.pointer (some ⟨b, 0, none⟩), .int .u8 c] w fun e w' => e = .returned (.tuple #[]) ∧ Wrote B b (l ++ ([92, 120] ++ hx2 c)) w w' := by
 have h1 : c / 16 < 16 := by omega
 have h2 : c % 16 < 16 := by omega
 have L1 := lit_at _ h1 h1
 have L2 := lit_at _ h2 h2
 have H1 := Lib.hid (bld_string B b l ⟨#[92, 120]⟩ w h (by have : (ByteArray.mk #[92, 120]).size = 2 := rfl; omega) hB)
 have hq : (c : Int) / 16 = ((c / 16 : Nat) : Int) := by omega
 have p1 : (0 : Int) ≤ ((c / 16 : Nat) : Int) := by omega
 have p2 : ((c / 16 : Nat) : Int) < 16 := by omega
 rw [show hx2 c = [hxd (c / 16), hxd (c % 16)] from rfl]
 have hr : (c : Int) % 16 = ((c % 16 : Nat) : Int) := by omega
 have p3 : (0 : Int) ≤ ((c % 16 : Nat) : Int) := by omega
 have p4 : ((c % 16 : Nat) : Int) < 16 := by omega
 generalize c / 16 = p at *
 generalize c % 16 = q at *
 go_enter Tryz.func94, Tryz.ntmps94
 go_wp2_with fail
 refine H1.out.mono ?_
 rintro e w1 ⟨rfl, k1⟩
 have K1 := Lib.hid k1
 clear k1
 go_wp2_with fail
 refine (bld_byte B b _ _ w1 K1.out.1 (by simp; omega) (K1.out.size hB) (hxd p).toNat_lt).mono ?_
 rintro e w2 ⟨rfl, k2⟩
 have K2 := Lib.hid k2
 clear k2
 go_wp2_with fail
 refine (bld_byte B b _ _ w2 K2.out.1 (by simp; omega) (K2.out.size (K1.out.size hB)) (hxd q).toNat_lt).mono ?_
 rintro e w3 ⟨rfl, k3⟩
 have K3 := Lib.hid k3
 clear k3
 go_wp2_with fail
 go_end0
 refine ⟨rfl, ?_⟩
 have := (K1.out.trans K2.out).trans K3.out
 simpa using this
end Go.Proofs.YtndhpdclpgemfaaGreat
namespace Go.Proofs.YtndhpdclpgemfaaGreat
open Go.RowKit
set_option linter.unusedVariables false
theorem rv_small {l : List UInt8} (h0 : l.length ≠ 0) (h : rv l < 128) : sg l = 1 ∧ nb l 0 = rv l := by
 have h1 : nb l 0 < 128 := Classical.byContradiction fun hh => by have := rv_big hh; omega
 have h2 := sg_one.2 ⟨h0, h1⟩
 exact ⟨h2, by unfold rv; rw [if_pos h2]⟩
theorem encode_one {l : List UInt8} (h : sg l = 1) : Lib.encodeRune (rv l : Int) = [UInt8.ofNat (nb l 0)] := by
 rw [encode_sign (by omega), h, take_nb l 1 (by have := (sg_le (l := l)).2; omega)]; rfl
theorem pieceQ_1 {l : List UInt8} (h0 : l.length ≠ 0) (h : rv l = 92 ∨ rv l = 39) : pieceQ l = [92] ++ Lib.encodeRune (rv l : Int) := by
 obtain ⟨h1, h2⟩ := rv_small h0 (by omega)
 rw [encode_one h1]
 unfold pieceQ
 rw [if_neg (by omega), if_pos (by omega)]
 rfl
theorem pieceQ_10 {l : List UInt8} (h0 : l.length ≠ 0) (h : rv l = 10) : pieceQ l = [92, 110] := by
 obtain ⟨h1, h2⟩ := rv_small h0 (by omega)
 unfold pieceQ
 rw [if_neg (by omega), if_neg (by omega), if_pos (by omega)]
theorem pieceQ_9 {l : List UInt8} (h0 : l.length ≠ 0) (h : rv l = 9) : pieceQ l = [92, 116] := by
 obtain ⟨h1, h2⟩ := rv_small h0 (by omega)
 unfold pieceQ
 rw [if_neg (by omega), if_neg (by omega), if_neg (by omega), if_pos (by omega)]
theorem pieceQ_13 {l : List UInt8} (h0 : l.length ≠ 0) (h : rv l = 13) : pieceQ l = [92, 114] := by
 obtain ⟨h1, h2⟩ := rv_small h0 (by omega)
 unfold pieceQ
 rw [if_neg (by omega), if_neg (by omega), if_neg (by omega), if_neg (by omega), if_pos (by omega)]
theorem pieceQ_c {l : List UInt8} (h0 : l.length ≠ 0) (h : (rv l < 32 ∧ rv l ≠ 10 ∧ rv l ≠ 9 ∧ rv l ≠ 13) ∨ rv l = 127 ∨ (rv l = 65533 ∧ Lib.hasPrefix l [239, 191, 189] = false)) : pieceQ l = [92, 120] ++ hx2 (nb l 0) := by
 unfold pieceQ
 rcases h with h | h | h
 ·obtain ⟨h1, h2⟩ := rv_small h0 (by omega)
  rw [if_neg (by omega), if_neg (by omega), if_neg (by omega), if_neg (by omega), if_neg (by omega), if_pos (by omega)]
 ·obtain ⟨h1, h2⟩ := rv_small h0 (by omega)
  rw [if_pos (by omega)]
 ·rw [if_pos (.inl ((bad_iff h0).1 h))]
theorem pieceQ_r {l : List UInt8} (h0 : l.length ≠ 0) (h1 : rv l ≠ 92) (h2 : rv l ≠ 39) (h3 : ¬ rv l < 32) (h4 : rv l ≠ 127) (h5 : rv l ≠ 65533 ∨ Lib.hasPrefix l [239, 191, 189] = true) : pieceQ l = Lib.encodeRune (rv l : Int) := by
 have hs : sg l ≠ 0 := fun e => by
  have := (bad_iff h0).2 e
  rcases h5 with h5 | h5
  ·exact h5 this.1
  ·rw [h5] at this; cases this.2
 rw [encode_sign hs]
 unfold pieceQ
 by_cases hb : nb l 0 < 128
 ·have h6 := sg_one.2 ⟨h0, hb⟩
  have h7 : rv l = nb l 0 := by unfold rv; rw [if_pos h6]
  rw [if_neg (by omega), if_neg (by omega), if_neg (by omega), if_neg (by omega), if_neg (by omega), if_neg (by omega)]
 ·rw [if_neg (by omega), if_neg (by omega), if_neg (by omega), if_neg (by omega), if_neg (by omega), if_neg (by omega)]
end Go.Proofs.YtndhpdclpgemfaaGreat
namespace Go.Proofs.YtndhpdclpgemfaaGreat
open Go.RowKit Go.Shelf
set_option linter.unusedSimpArgs false
set_option linter.unusedVariables false
theorem Wrote.old {B : Nat} {l : List UInt8} {a w w' : World} (h : Wrote B B l w w') (k : Below B a w) : Below B a w' := k.trans h.2.1
theorem hasPrefix_any (s : ByteArray) (b : Bool) (w : World) (h : Lib.hasPrefix s.data.toList [239, 191, 189] = b) :
    Calls Tryz.prog 93 #[.string s, .string ⟨#[239, 191, 189]⟩] w fun e w' => e = .returned (.bool b) ∧ w = w' := by
 refine (Any.strings_HasPrefix { shLays99 with } s ⟨#[239, 191, 189]⟩ w).mono ?_
 rintro e w' ⟨rfl, rfl⟩
 exact ⟨by rw [← h], rfl⟩
theorem Sq48 {P : Prop} (h : P := by
 first
 | (guard_hyp z48a; have q92 : ((r : Int) == 92) = true := by simp; omega)
 | (have q39 : ((r : Int) == 39) = true := by simp; omega)
 have HP := Lib.hid (R1.out (by omega))
 first
 | (guard_hyp z48a; clear a92)
 | (clear a39)
 go_wp2_with fail
 refine (bld_byte w.heap.size w.heap.size _ 92 _ HI2.out (by simp; omega) hsz2 (by omega)).mono ?_
 rintro e Wa ⟨rfl, kWa⟩
 have KWa := Lib.hid kWa
 clear kWa
 go_wp2_with fail
 refine (bld_rune w.heap.size w.heap.size _ r _ KWa.out.1 (by simp; omega) (KWa.out.size hsz2) hrl).mono ?_
 rintro e Wb ⟨rfl, kWb⟩
 have KWb := Lib.hid kWb
 clear kWb
 have KW := Lib.hid (KWa.out.trans KWb.out)
 go_wp2_with fail
 go_roundw
 case rel => exact ⟨pos + m, d ++ P, by have := KW.out.1; rw [show P = _ from HP.out]; simpa using this, KW.out.2.2.iter HIT2.out (by simp; omega), HBW2.out.trans KW.out.2.1, NX⟩
 case measure => simp only [World.iterPos, KW.out.2.2.iter HIT2.out (by simp; omega), HIT.out]; omega) : P := h
theorem Sq55 {P : Prop} (h : P := by
 first
 |(
  guard_hyp z55a
  have q10 : ((r : Int) == 10) = true := by simp; omega
  have HP := Lib.hid (R10.out a10)
  clear a10)
 |(
  guard_hyp z55b
  have q13 : ((r : Int) == 13) = true := by simp; omega
  have HP := Lib.hid (R13.out a13)
  clear a13)
 |(
  have q9 : ((r : Int) == 9) = true := by simp; omega
  have HP := Lib.hid (R9.out a9)
  clear a9)
 go_wp2_with fail
 first
 | (guard_hyp z55a; refine (bld_string w.heap.size w.heap.size _ ⟨#[92, 110]⟩ _ HI2.out (by have : (ByteArray.mk #[92, 110]).size = 2 := rfl; simp; omega) hsz2).mono ?_)
 | (guard_hyp z55b; refine (bld_string w.heap.size w.heap.size _ ⟨#[92, 114]⟩ _ HI2.out (by have : (ByteArray.mk #[92, 114]).size = 2 := rfl; simp; omega) hsz2).mono ?_)
 | (refine (bld_string w.heap.size w.heap.size _ ⟨#[92, 116]⟩ _ HI2.out (by have : (ByteArray.mk #[92, 116]).size = 2 := rfl; simp; omega) hsz2).mono ?_)
 rintro e KW0 ⟨rfl, kKW0⟩
 have KKW0 := Lib.hid kKW0
 clear kKW0
 have KW := KKW0
 go_wp2_with fail
 go_roundw
 case rel => exact ⟨pos + m, d ++ P, by have := KW.out.1; rw [show P = _ from HP.out]; simpa using this, KW.out.2.2.iter HIT2.out (by simp; omega), HBW2.out.trans KW.out.2.1, NX⟩
 case measure => simp only [World.iterPos, KW.out.2.2.iter HIT2.out (by simp; omega), HIT.out]; omega) : P := h
theorem Sq47 {P : Prop} (h : P := by
 first
 |(
  guard_hyp z47a
  have hpx : Lib.hasPrefix (s.extract pos s.size).data.toList [239, 191, 189] = false := by rw [HEX.out, ← hpf]; rfl
  have HPF := Lib.hid (hasPrefix_any (s.extract pos s.size) false Wn hpx)
  clear hpx
  have HP := Lib.hid (RC.out (.inr (.inr ⟨a6, hpf⟩)))
  have HPF2 := Lib.hid hpf
  clear a6 hpf
  go_wp2_with fail
  refine HPF.out.mono ?_
  rintro e w8 ⟨rfl, rfl⟩)
 |(
  guard_hyp z47c
  have q32 : decide ((r : Int) < 32) = true := by simp; omega
  have q33 : (r : Int) < 32 := by omega
  have HP := Lib.hid (RC.out (.inl ⟨by omega, by omega, by omega, by omega⟩)))
 |(
  have q127 : ((r : Int) == 127) = true := by simp; omega
  have HP := Lib.hid (RC.out (.inr (.inl (by omega))))
  clear a127)
 go_wp2_with fail
 refine (coded_any w.heap.size w.heap.size _ s[pos].toNat _ HI2.out (by simp; omega) hsz2 hcb).mono ?_
 rintro e KW0 ⟨rfl, kKW0⟩
 have KKW0 := Lib.hid kKW0
 clear kKW0
 have KW := KKW0
 go_wp2_with fail
 go_roundw
 case rel => exact ⟨pos + m, d ++ P, by have := KW.out.1; rw [show P = _ from HP.out]; simpa using this, KW.out.2.2.iter HIT2.out (by simp; omega), HBW2.out.trans KW.out.2.1, NX⟩
 case measure => simp only [World.iterPos, KW.out.2.2.iter HIT2.out (by simp; omega), HIT.out]; omega) : P := h
set_option maxRecDepth 1000000 in
set_option maxHeartbeats 4000000 in
theorem quote_any (s : ByteArray) (w : World) (hs : s.size ≤ 1099511627776) :
    Calls Tryz.prog 38 #[.string s] w fun e w' => e = .returned (.string (strOf (39 :: (quoteL s.data.toList ++ [39])))) ∧ Below w.heap.size w w' := by
 go_enter Tryz.func38, Tryz.ntmps38
 go_wp2_with fail
 have HI0 := Lib.hid (show Bld w.heap.size w.heap.size [] _ from (Lib.IsBuilderF.of (Lib.fresh_isBuilder 74 5 w)))
 refine (bld_byte w.heap.size w.heap.size [] 39 _ HI0.out (by simp) (by simp) (by omega)).mono ?_
 rintro e W1 ⟨rfl, k1⟩
 have hbl := k1.old ((Below.refl _ w).alloc (Nat.le_refl _) _)
 have hsz := k1.2.1.size
 simp at hsz
 have HI1 := Lib.hid k1.1
 clear HI0 k1
 go_wp2_with fail
 go_loopw [] (fun wr => ∃ (pos : Nat) (d : List UInt8), Bld w.heap.size w.heap.size (39 :: d) wr ∧ wr.heap[W1.heap.size]? = some (.stringIter s pos) ∧ Below w.heap.size w wr ∧ Hid (DoneQ s.data.toList pos d)) (fun wr => s.size - wr.iterPos W1.heap.size)
 case atStart =>
  refine ⟨0, [], HI1.out.alloc _, ?_, hbl.alloc (by omega) _, Lib.hid (doneQ_zero _)⟩
  have := World.iter_heap W1 s 0
  simpa using this
 case round =>
  obtain ⟨pos, d, hI, hit, hbw, hd⟩ := hrel
  have hszr : W1.heap.size < wr.heap.size := (Array.getElem?_eq_some_iff.1 hit).1
  have HIT := Lib.hid hit
  clear hit
  have HBW := Lib.hid hbw
  clear hbw HI1 hbl
  have HI := Lib.hid hI
  clear hI
  by_cases hp : pos < s.size
  ·have hnx : ∀ ty, (Instr.next (.pointer (some ⟨W1.heap.size, 0, none⟩)) true ty).run Tryz.prog wr = _ := fun ty => Lib.run_next_any_at wr W1.heap.size s pos ty HIT.out hp
   have hln : (s.data.toList.drop pos).length ≠ 0 := by simp; omega
   have hdec := decode_spec s pos hp
   have NX := Lib.hid (doneQ_step hd.out (by simp; exact hp))
   have hdl := hd.out.2.1
   have hmv : (if sg (s.data.toList.drop pos) = 0 then 1 else sg (s.data.toList.drop pos)) = stepQ (s.data.toList.drop pos) := rfl
   rw [hmv] at hdec
   have hm1 := stepQ_pos (s.data.toList.drop pos)
   have hm2 := stepQ_le hln
   rw [List.length_drop] at hm2
   simp only [Array.length_toList, ByteArray.size_data] at hm2
   have hrl : rv (s.data.toList.drop pos) ≤ 2147483647 := by have := decode_le s pos; rw [hdec] at this; exact this
   rw [hdec] at hnx
   dsimp only at hnx
   have HPC : Hid (∀ c, c = s[pos] → nb (s.data.toList.drop pos) 0 = c.toNat) := Lib.hid (fun c hc => by rw [nb_drop, Nat.add_zero, hc, nb_get s pos hp])
   have hcb : s[pos].toNat < 256 := by have := s[pos].toNat_lt; omega
   have HX := Lib.hid (HPC.out _ rfl)
   have R1 := Lib.hid (pieceQ_1 hln)
   have R10 := Lib.hid (pieceQ_10 hln)
   have R9 := Lib.hid (pieceQ_9 hln)
   have R13 := Lib.hid (pieceQ_13 hln)
   have RC := Lib.hid (pieceQ_c hln)
   have RR := Lib.hid (pieceQ_r hln)
   have hex : s.extract pos s.size = strOf (s.data.toList.drop pos) := by
    have h := extract_strOf s pos (s.size - pos) (by omega)
    rw [show pos + (s.size - pos) = s.size from by omega, List.take_of_length_le (by simp)] at h
    exact h
   have HEX := Lib.hid hex
   clear hex hdec hmv HPC
   rw [HX.out] at RC
   generalize rv (s.data.toList.drop pos) = r at *
   generalize pieceQ (s.data.toList.drop pos) = P at *
   generalize stepQ (s.data.toList.drop pos) = m at *
   have HI2 := Lib.hid (show Bld w.heap.size w.heap.size (39 :: d) (wr.iterAt W1.heap.size s (pos + m)) from (HI.out.iterAt HIT.out (pos + m)))
   have HIT2 := Lib.hid (Lib.iterAt_heap wr W1.heap.size s pos (pos + m) HIT.out)
   have HBW2 := Lib.hid (Lib.below_iterAt HBW.out (k := W1.heap.size) (by omega) s (pos + m))
   have hsz2 : w.heap.size ≤ (wr.iterAt W1.heap.size s (pos + m)).heap.size := by rw [Lib.iterAt_size]; omega
   generalize hWn : wr.iterAt W1.heap.size s (pos + m) = Wn at *
   have HWn := Lib.hid hWn
   clear hWn HX
   by_cases a92 : r = 92
   ·have z48a := trivial
    exact Sq48
   have q92 : ((r : Int) == 92) = false := by simp; omega
   by_cases a39 : r = 39
   ·exact Sq48
   have q39 : ((r : Int) == 39) = false := by simp; omega
   by_cases a10 : r = 10
   ·have z55a := trivial
    exact Sq55
   have q10 : ((r : Int) == 10) = false := by simp; omega
   by_cases a9 : r = 9
   ·exact Sq55
   have q9 : ((r : Int) == 9) = false := by simp; omega
   by_cases a13 : r = 13
   ·have z55b := trivial
    exact Sq55
   have q13 : ((r : Int) == 13) = false := by simp; omega
   by_cases b32 : r < 32
   ·have z47c := trivial
    exact Sq47
   have q32 : decide ((r : Int) < 32) = false := by simp; omega
   have q33 : ¬ (r : Int) < 32 := by omega
   by_cases a127 : r = 127
   ·exact Sq47
   have q127 : ((r : Int) == 127) = false := by simp; omega
   by_cases a6 : r = 65533
   ·have q6 : ((r : Int) == 65533) = true := by simp; omega
    by_cases hpf : Lib.hasPrefix (s.data.toList.drop pos) [239, 191, 189] = false
    ·have z47a := trivial
     exact Sq47
    have hpf : Lib.hasPrefix (s.data.toList.drop pos) [239, 191, 189] = true := by simpa using hpf
    have hpx : Lib.hasPrefix (s.extract pos s.size).data.toList [239, 191, 189] = true := by rw [HEX.out, ← hpf]; rfl
    have HPF := Lib.hid (hasPrefix_any (s.extract pos s.size) true Wn hpx)
    clear hpx
    have HP := Lib.hid (RR.out (by omega) (by omega) b32 (by omega) (.inr hpf))
    have HPF2 := Lib.hid hpf
    clear a6 hpf
    go_wp2_with fail
    refine HPF.out.mono ?_
    rintro e w8 ⟨rfl, rfl⟩
    go_wp2_with fail
    refine (bld_rune w.heap.size w.heap.size _ r _ HI2.out (by simp; omega) hsz2 hrl).mono ?_
    rintro e KW0 ⟨rfl, kKW0⟩
    have KKW0 := Lib.hid kKW0
    clear kKW0
    have KW := KKW0
    go_wp2_with fail
    go_roundw
    case rel => exact ⟨pos + m, d ++ P, by have := KW.out.1; rw [show P = _ from HP.out]; simpa using this, KW.out.2.2.iter HIT2.out (by simp; omega), HBW2.out.trans KW.out.2.1, NX⟩
    case measure => simp only [World.iterPos, KW.out.2.2.iter HIT2.out (by simp; omega), HIT.out]; omega
   have q6 : ((r : Int) == 65533) = false := by simp; omega
   have HP := Lib.hid (RR.out (by omega) (by omega) b32 (by omega) (.inl a6))
   go_wp2_with fail
   refine (bld_rune w.heap.size w.heap.size _ r _ HI2.out (by simp; omega) hsz2 hrl).mono ?_
   rintro e KW0 ⟨rfl, kKW0⟩
   have KKW0 := Lib.hid kKW0
   clear kKW0
   have KW := KKW0
   go_wp2_with fail
   go_roundw
   case rel => exact ⟨pos + m, d ++ P, by have := KW.out.1; rw [show P = _ from HP.out]; simpa using this, KW.out.2.2.iter HIT2.out (by simp; omega), HBW2.out.trans KW.out.2.1, NX⟩
   case measure => simp only [World.iterPos, KW.out.2.2.iter HIT2.out (by simp; omega), HIT.out]; omega
  ·have hnx : ∀ ty, (Instr.next (.pointer (some ⟨W1.heap.size, 0, none⟩)) true ty).run Tryz.prog wr = _ := fun ty => Lib.run_next_end_at wr W1.heap.size s pos ty HIT.out hp
   have HE := Lib.hid (doneQ_end hd.out (by simp; omega))
   have hdl := hd.out.2.1
   have hpl := hd.out.1
   simp only [Array.length_toList, ByteArray.size_data] at hpl
   go_wp2_with fail
   refine (bld_byte w.heap.size w.heap.size _ 39 _ HI.out (by simp; omega) (by omega) (by omega)).mono ?_
   rintro e Wa ⟨rfl, kWa⟩
   have KWa := Lib.hid kWa
   clear kWa
   go_wp2_with fail
   refine (bld_str w.heap.size w.heap.size _ _ KWa.out.1 (KWa.out.size (by omega))).mono ?_
   rintro e Wb ⟨rfl, kWb⟩
   have KWb := Lib.hid kWb
   clear kWb
   go_wp2_with fail
   go_ret
   exact ⟨by rw [HE.out]; rfl, (HBW.out.trans KWa.out.2.1).trans KWb.out.2.1⟩
end Go.Proofs.YtndhpdclpgemfaaGreat

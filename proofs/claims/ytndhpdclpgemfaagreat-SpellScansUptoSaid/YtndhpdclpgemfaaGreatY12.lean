/- Parts L6, Cont, L7, X5 of this seat (pruned, scripts that are alike kept once as default arguments: q1, q2, ..). Conditions: each says its own. -/
import Derived.Shelf.Strings.Builder1
import Derived.Shelf.Strings.Builder2
import Derived.Shelf.Strings.OnBuilder
import Derived.Shelf.Small.Strs
import Derived.Shelf.Strings.BuilderF
import Derived.Shelf.Strings.BuilderK
import Derived.Shelf.Strings.BuilderRune
import Derived.Shelf.Utf8.AppendRune
import Derived.Shelf.Strings.Builder2Cap
import Derived.Shelf.Strings.Search1
import Derived.Shelf.Strings.Search2
import Derived.Shelf.Strings.Search3
import Derived.Shelf.LaysM
import Derived.Shelf.Strings.Shaped
import Derived.Shelf.Strings.Prefix
import Derived.Shelf.Strings.BuilderCap
import Derived.Test.YtndhpdclpgemfaaGreatProg
import Derived.Test.YtndhpdclpgemfaaGreatY4
import Derived.Test.YtndhpdclpgemfaaGreatY6
import Derived.Test.YtndhpdclpgemfaaGreatY8
import Derived.Test.YtndhpdclpgemfaaGreatY11
namespace Go.Proofs.YtndhpdclpgemfaaGreat
open Go.RowKit Go.Shelf
set_option linter.unusedSimpArgs false
set_option linter.unusedVariables false
def wordR (l : List UInt8) : Value := if wordB l then .tuple #[.string (strOf (largeL l)), .bool true] else .tuple #[.string ⟨#[]⟩, .bool false]
theorem strEq (x y : List UInt8) : ((strOf x).toList == (strOf y).toList) = decide (x = y) := by
 rw [strOf_list, strOf_list, Bool.eq_iff_iff]; simp
theorem wordsC_get {i : Nat} (h : i < 28) : wordsC[i]? = some (.string (strOf (wordsL[i]'(by show i < 28; exact h)))) := by
 unfold wordsC
 rw [List.getElem?_map, List.getElem?_eq_getElem (by show i < 28; exact h)]; rfl
set_option maxRecDepth 1000000 in
set_option maxHeartbeats 4000000 in
theorem rword_any (s : ByteArray) (w : World) (hs : s.size ≤ 1099511627776) :
    Calls Tryz.prog 95 #[.string s] w fun e w' => e = .returned (wordR s.data.toList) ∧ Below w.heap.size w w' := by
 obtain ⟨R, hR⟩ := nam (wordR s.data.toList)
 have HR := Lib.hid hR
 rw [hR]
 clear hR
 go_enter Tryz.func95, Tryz.ntmps95
 go_wp2_with fail
 refine (words_any _).mono ?_
 rintro e w1 ⟨rfl, hw1⟩
 have hb1 : Below w.heap.size w w1 := by rw [hw1]; exact (Below.refl _ _).alloc (Nat.le_refl _) _
 have HZ : Hid (w1.heap.size = w.heap.size + 1) := Lib.hid (by rw [hw1]; simp)
 have hck : ∀ (i : Nat) v, wordsC[i]? = some v → w1.cell? ⟨w.heap.size, i, none⟩ = some v := by
  intro i v hv
  rw [hw1]
  simp only [World.cell?, heap_alloc_new]
  simp [hv]
 have HCK := Lib.hid hck
 have HB1 := Lib.hid hb1
 clear hck hb1 hw1
 go_wp2_with fail
 refine (rlarge_any s _ hs).mono ?_
 rintro e w2 ⟨rfl, hb2⟩
 have HCL : Hid (∀ (i : Nat) v, wordsC[i]? = some v → w2.cell? ⟨w.heap.size, i, none⟩ = some v) := Lib.hid (fun i v hv => by
  rw [hb2.cell (by show w.heap.size < w1.heap.size; rw [HZ.out]; omega)]; exact HCK.out i v hv)
 have HB2 : Hid (Below w.heap.size w w2) := Lib.hid (below_step HB1.out rfl hb2)
 clear hb2 HCK
 go_wp2_with fail
 go_loopw [6] (fun k wr => ∃ (i : Nat), k = .int .i64 i ∧ i ≤ 28 ∧ wr = w2 ∧ Hid (∀ j (h : j < 28), j < i → (wordsL[j]'(by show j < 28; exact h)) ≠ largeL s.data.toList)) (fun k _ => 28 - (intOf k).toNat)
 case atStart => exact ⟨0, rfl, by omega, rfl, Lib.hid (fun j _ h => by omega)⟩
 case round =>
  obtain ⟨i, rfl, hil, rfl, HN⟩ := hrel
  by_cases hp : i < 28
  ·have hp' : (i : Int) < 28 := by omega
   have p0 : (0 : Int) ≤ (i : Int) := by omega
   have g1 := HCL.out i _ (wordsC_get hp)
   have HEQ := Lib.hid (strEq (wordsL[i]'(by show i < 28; exact hp)) (largeL s.data.toList))
   by_cases hq : (wordsL[i]'(by show i < 28; exact hp)) = largeL s.data.toList
   ·have hd : (decide ((wordsL[i]'(by show i < 28; exact hp)) = largeL s.data.toList)) = true := decide_eq_true hq
    rw [hd] at HEQ
    clear hd
    have hwb : wordB s.data.toList = true := by unfold wordB; rw [← hq]; exact decide_eq_true (List.getElem_mem _)
    have hr : R = .tuple #[.string (strOf (largeL s.data.toList)), .bool true] := by rw [← HR.out]; unfold wordR; rw [if_pos hwb]
    have HRR := Lib.hid hr
    clear hr hwb hq
    generalize strOf (wordsL[i]'(by show i < 28; exact hp)) = A at *
    generalize strOf (largeL s.data.toList) = B at *
    have he := HEQ.out
    go_wp2_with fail
    go_ret2
    exact ⟨(by rw [HRR.out]; rfl), HB2.out⟩
   ·have hd : (decide ((wordsL[i]'(by show i < 28; exact hp)) = largeL s.data.toList)) = false := decide_eq_false hq
    rw [hd] at HEQ
    clear hd
    have HQ := Lib.hid hq
    clear hq
    have HNN : Hid (∀ j (h : j < 28), j < i + 1 → (wordsL[j]'(by show j < 28; exact h)) ≠ largeL s.data.toList) := Lib.hid (fun j h hj => by
     by_cases hji : j = i
     ·subst hji; exact HQ.out
     ·exact HN.out j h (by omega))
    generalize strOf (wordsL[i]'(by show i < 28; exact hp)) = A at *
    generalize strOf (largeL s.data.toList) = B at *
    have he := HEQ.out
    go_wp2_with fail
    go_roundw
    case rel => exact ⟨i + 1, by go_num, by omega, by first | rfl | trivial, HNN⟩
    case measure => simp [intOf]; omega
  ·have hp' : ¬ (i : Int) < 28 := by omega
   have hwb : wordB s.data.toList = false := by
    unfold wordB
    refine decide_eq_false (fun hm => ?_)
    obtain ⟨j, hj, e⟩ := List.getElem_of_mem hm
    have hj' : j < 28 := hj
    exact HN.out j hj' (by omega) e
   have hr : R = .tuple #[.string ⟨#[]⟩, .bool false] := by rw [← HR.out]; unfold wordR; rw [hwb]; rfl
   have HRR := Lib.hid hr
   clear hr hwb
   go_wp2_with fail
   go_ret2
   exact ⟨(by rw [HRR.out]; rfl), HB2.out⟩
end Go.Proofs.YtndhpdclpgemfaaGreat
namespace Go.Proofs.YtndhpdclpgemfaaGreat
open Go.Shelf Go.Proofs Go.RowKit Go.Lib
def lays144_ren : Go.Shelf.Ren := ⟨fun | 144 => 101 | 143 => 135 | 219 => 146 | 217 => 150 | 225 => 151 | 224 => 152 | 267 => 153 | 266 => 156 | 314 => 157 | n => n, fun | 9 => 9 | 4 => 4 | 3 => 3 | 5 => 5 | 46 => 170 | 146 => 188 | 51 => 184 | n => n, fun | 1 => 0 | n => n⟩
theorem lays144 : Go.Proofs.Lays.n144 Tryz.prog lays144_ren := {
  mixed := by kernel_rfl
  f143 := Tryz.func135.trans (congrArg some (by kernel_rfl))
  f144 := Tryz.func101.trans (congrArg some (by kernel_rfl))
  f217 := Tryz.func150.trans (congrArg some (by kernel_rfl))
  f219 := Tryz.func146.trans (congrArg some (by kernel_rfl))
  f224 := Tryz.func152.trans (congrArg some (by kernel_rfl))
  f225 := Tryz.func151.trans (congrArg some (by kernel_rfl))
  f266 := Tryz.func156.trans (congrArg some (by kernel_rfl))
  f267 := Tryz.func153.trans (congrArg some (by kernel_rfl))
  f314 := Tryz.func157.trans (congrArg some (by kernel_rfl))
  t3 := Tryz.underlying3
  a3 := Tryz.isAgg3
  z3 := Tryz.sizeOf3
  v3 := Tryz.zeroValue3
  t4 := Tryz.underlying4
  a4 := Tryz.isAgg4
  z4 := Tryz.sizeOf4
  v4 := Tryz.zeroValue4
  t5 := Tryz.underlying5
  a5 := Tryz.isAgg5
  z5 := Tryz.sizeOf5
  v5 := Tryz.zeroValue5
  t9 := Tryz.underlying9
  a9 := Tryz.isAgg9
  z9 := Tryz.sizeOf9
  v9 := Tryz.zeroValue9
  t46 := Tryz.underlying170
  a46 := Tryz.isAgg170
  z46 := Tryz.sizeOf170
  v46 := Tryz.zeroValue170
  t51 := Tryz.underlying184
  a51 := Tryz.isAgg184
  z51 := Tryz.sizeOf184
  v51 := Tryz.zeroValue184
  t146 := Tryz.underlying188
  a146 := Tryz.isAgg188
  z146 := Tryz.sizeOf188
  v146 := Tryz.zeroValue188
  g1 := by kernel_rfl }
theorem strings_Contains_one (s : ByteArray) (c : UInt8) (w : World) :
    Calls Tryz.prog 101 #[.string s, .string ⟨#[c]⟩] w fun e w' => e = .returned (.bool (decide (0 ≤ Lib.indexByte s.data.toList c))) ∧ w' = w := Any.strings_Contains_one lays144 s c w
theorem strings_Contains (s sub : ByteArray) (m : Int) (w : World) (hs : s.size < 4294967281) (hm : w.cell? ⟨0, 0, none⟩ = some (.int .i64 m)) :
    Calls Tryz.prog 101 #[.string s, .string sub] w fun e w' => e = .returned (.bool (Lib.contains s.data.toList sub.data.toList)) ∧ w' = w := Any.strings_Contains lays144 s sub m w hs hm
end Go.Proofs.YtndhpdclpgemfaaGreat
namespace Go.Proofs.YtndhpdclpgemfaaGreat
open Go.RowKit Go.Shelf
set_option linter.unusedSimpArgs false
set_option linter.unusedVariables false
def wordsK : ByteArray := { data := (([32, 77, 65, 84, 67, 72, 32, 87, 72, 69, 82, 69, 32, 85, 78, 87, 73, 78, 68, 32, 65, 83, 32, 87, 73, 84, 72, 32, 67, 82, 69, 65, 84, 69, 32, 77, 69].append [82, 71, 69, 32, 83, 69, 84, 32, 82, 69, 77, 79, 86, 69, 32, 68, 69, 76, 69, 84, 69, 32, 68, 69, 84, 65, 67, 72, 32, 82, 69, 84, 85, 82, 78, 32, 68]).append ([73, 83, 84, 73, 78, 67, 84, 32, 79, 82, 68, 69, 82, 32, 66, 89, 32, 65, 83, 67, 32, 68, 69, 83, 67, 32, 83, 75, 73, 80, 32, 76, 73, 77, 73, 84, 32].append [65, 78, 68, 32, 79, 82, 32, 88, 79, 82, 32, 78, 79, 84, 32, 73, 78, 32, 73, 83, 32, 78, 85, 76, 76, 32, 84, 82, 85, 69, 32, 70, 65, 76, 83, 69, 32])).toArray }
theorem wordsK_list : wordsK.data.toList = wordsL.flatMap (fun w => 32 :: w) ++ [32] := by decide +kernel
theorem wordsK_size : wordsK.size < 4294967281 := by decide +kernel
def mlA : Addr := ⟨0, 0, none⟩
theorem Sq79 {P : Prop} (h : P := by
 go_wp2_with fail
 refine (HNA.out _).mono ?_
 rintro e w2 ⟨rfl, hb2⟩
 have hcc := HCC.out w2 hb2
 have HB2 := Lib.hid hb2
 clear hb2
 go_wp2_with fail
 refine hcc.mono ?_
 rintro e w3 ⟨rfl, rfl⟩
 go_wp2_with fail
 go_ret2
 exact ⟨(by rw [HRR.out]; rfl), below_step HB1.out rfl HB2.out⟩) : P := h
set_option maxRecDepth 1000000 in
set_option maxHeartbeats 4000000 in
theorem word_any (s : ByteArray) (m : Int) (w : World) (hs : s.size ≤ 1099511627776) (hm : w.cell? mlA = some (.int .i64 m)) (hg : 0 < w.heap.size) :
    Calls Tryz.prog 90 #[.string s] w fun e w' => e = .returned (wordR s.data.toList) ∧ Below w.heap.size w w' := by
 obtain ⟨R, hR⟩ := nam (wordR s.data.toList)
 have HR := Lib.hid hR
 rw [hR]
 clear hR
 have HM := Lib.hid hm
 clear hm
 have HL := Lib.hid (fun (b : Bool) (h : nameB s.data.toList = true) => wordB_has h)
 obtain ⟨nb', hnb⟩ : ∃ nb', nameB s.data.toList = nb' := ⟨_, rfl⟩
 have HNA := Lib.hid (fun w => sname_any s w hs)
 rw [hnb] at HNA
 have HNB := Lib.hid hnb
 clear hnb
 go_enter Tryz.func90, Tryz.ntmps90
 go_wp2_with fail
 refine (large_any s _ hs).mono ?_
 rintro e w1 ⟨rfl, hb1⟩
 have HB1 := Lib.hid hb1
 have HM1 : Hid (w1.cell? mlA = some (.int .i64 m)) := Lib.hid (by rw [hb1.cell (by show 0 < w.heap.size; exact hg)]; exact HM.out)
 have hg1 : 0 < w1.heap.size := Nat.lt_of_lt_of_le hg hb1.size
 clear hb1
 cases nb' with
 | false =>
  have hr : R = .tuple #[.string ⟨#[]⟩, .bool false] := by rw [← HR.out]; unfold wordR; rw [wordB_no HNB.out]; rfl
  have HRR := Lib.hid hr
  clear hr
  go_wp2_with fail
  refine (HNA.out _).mono ?_
  rintro e w2 ⟨rfl, hb2⟩
  have HB2 := Lib.hid hb2
  clear hb2
  go_wp2_with fail
  go_ret2
  exact ⟨(by rw [HRR.out]; rfl), below_step HB1.out rfl HB2.out⟩
 | true =>
  have hsub : (⟨#[32]⟩ ++ strOf (largeL s.data.toList) ++ ⟨#[32]⟩ : ByteArray).data.toList = 32 :: (largeL s.data.toList ++ [32]) := by simp [strOf]
  have hc : ∀ w2, Below w1.heap.size w1 w2 → Calls Tryz.prog 101 #[.string wordsK, .string (⟨#[32]⟩ ++ strOf (largeL s.data.toList) ++ ⟨#[32]⟩)] w2 fun e w' => e = .returned (.bool (wordB s.data.toList)) ∧ w' = w2 := fun w2 hb2 => by
   refine (strings_Contains wordsK _ m w2 wordsK_size (by have := hb2.cell (p := mlA) hg1; show w2.cell? mlA = _; rw [this]; exact HM1.out)).mono ?_
   rintro e w' ⟨rfl, rfl⟩
   refine ⟨?_, rfl⟩
   rw [wordsK_list, hsub, wordB_has HNB.out]
  have HCC := Lib.hid hc
  clear hc hsub HL
  obtain ⟨wb, hwb⟩ := nam (wordB s.data.toList)
  rw [hwb] at HCC
  have hr : R = if wb then .tuple #[.string (strOf (largeL s.data.toList)), .bool true] else .tuple #[.string ⟨#[]⟩, .bool false] := by rw [← HR.out]; unfold wordR; rw [hwb]
  have HRR := Lib.hid hr
  clear hr hwb
  have hxs : (strOf (largeL s.data.toList)).size = s.size := by rw [strOf_size]; unfold largeL; simp
  have hxt : (⟨#[32]⟩ ++ strOf (largeL s.data.toList) : ByteArray).size = 1 + s.size := by rw [ByteArray.size_append, hxs]; rfl
  generalize strOf (largeL s.data.toList) = X at *
  cases wb with
  | true =>
   exact Sq79
  | false =>
   exact Sq79
end Go.Proofs.YtndhpdclpgemfaaGreat
namespace Go.Proofs.YtndhpdclpgemfaaGreat
open Go.RowKit
set_option linter.unusedSimpArgs false
set_option linter.unusedVariables false
set_option maxRecDepth 100000
def ML (w : World) : Prop := 0 < w.heap.size ∧ ∃ m, w.cell? mlA = some (.int .i64 m)
theorem ML.below {w w' : World} (h : ML w) (hb : Below w.heap.size w w') : ML w' := by
 obtain ⟨h1, m, h2⟩ := h
 exact ⟨Nat.lt_of_lt_of_le h1 hb.size, m, by rw [hb.cell (by show 0 < w.heap.size; exact h1)]; exact h2⟩
def plainB (s : ByteArray) : Bool := nameB s.data.toList && !wordB s.data.toList
def keyT (s : ByteArray) : ByteArray := if plainB s = true then s else strOf (39 :: (quoteL s.data.toList ++ [39]))
theorem wordR_eq (l : List UInt8) : ∃ t, wordR l = .tuple #[.string t, .bool (wordB l)] := by
 unfold wordR
 cases h : wordB l with
 | true => exact ⟨_, rfl⟩
 | false => exact ⟨_, rfl⟩
set_option maxHeartbeats 4000000 in
theorem rplain_any (s : ByteArray) (w : World) (hs : s.size ≤ 1099511627776) : Calls Tryz.prog 39 #[.string s] w fun e w' => e = .returned (.bool (plainB s)) ∧ Below w.heap.size w w' := by
 obtain ⟨t, ht⟩ := wordR_eq s.data.toList
 obtain ⟨b, hb⟩ := nam (wordB s.data.toList)
 obtain ⟨c, hc⟩ := nam (nameB s.data.toList)
 have HW := Lib.hid (rword_any s w hs)
 rw [ht, hb] at HW
 have HN : Hid (∀ u, Calls Tryz.prog 96 #[.string s] u fun e w' => e = .returned (.bool c) ∧ u = w') := Lib.hid (fun u => by rw [← hc]; exact rname_any s u hs)
 have hq : plainB s = (c && !b) := by unfold plainB; rw [hb, hc]
 rw [hq]
 clear hq ht hb hc
 cases c <;> cases b <;>
 ·go_enter Tryz.func39, Tryz.ntmps39
  go_wp2_with fail
  refine HW.out.mono ?_
  rintro e w1 ⟨rfl, hb1⟩
  have HB1 := Lib.hid hb1
  clear hb1
  go_wp2_with fail
  refine (HN.out _).mono ?_
  rintro e w2 ⟨rfl, rfl⟩
  go_wp2_with fail
  go_ret
  exact ⟨rfl, HB1.out⟩
set_option maxHeartbeats 4000000 in
theorem splain_any (s : ByteArray) (w : World) (hs : s.size ≤ 1099511627776) (hm : ML w) : Calls Tryz.prog 37 #[.string s] w fun e w' => e = .returned (.bool (plainB s)) ∧ Below w.heap.size w w' := by
 obtain ⟨t, ht⟩ := wordR_eq s.data.toList
 obtain ⟨b, hb⟩ := nam (wordB s.data.toList)
 obtain ⟨c, hc⟩ := nam (nameB s.data.toList)
 obtain ⟨h1, m, h2⟩ := hm
 have HW := Lib.hid (word_any s m w hs h2 h1)
 rw [ht, hb] at HW
 have HN : Hid (∀ u, Calls Tryz.prog 91 #[.string s] u fun e w' => e = .returned (.bool c) ∧ Below u.heap.size u w') := Lib.hid (fun u => by rw [← hc]; exact sname_any s u hs)
 have hq : plainB s = (c && !b) := by unfold plainB; rw [hb, hc]
 rw [hq]
 clear hq ht hb hc h1 h2
 cases c <;> cases b <;>
 ·go_enter Tryz.func37, Tryz.ntmps37
  go_wp2_with fail
  refine HW.out.mono ?_
  rintro e w1 ⟨rfl, hb1⟩
  have HB1 := Lib.hid hb1
  clear hb1
  go_wp2_with fail
  refine (HN.out _).mono ?_
  rintro e w2 ⟨rfl, hb2⟩
  have HB2 := Lib.hid (HB1.out.trans (hb2.mono HB1.out.size))
  clear hb2
  go_wp2_with fail
  go_ret
  exact ⟨rfl, HB2.out⟩
theorem Sq44 {P : Prop} (h : P := by
 obtain ⟨b, hb⟩ := nam (plainB s)
 first
 | (guard_hyp z44a; have HP := Lib.hid (splain_any s w hs hm))
 | (have HP := Lib.hid (rplain_any s w hs))
 rw [hb] at HP
 first
 | (guard_hyp z44b; have HK := Lib.hid (fun u => rquote_any s u hs))
 | (have HK := Lib.hid (fun u => quote_any s u hs))
 obtain ⟨q, hq⟩ : ∃ q, strOf (39 :: (quoteL s.data.toList ++ [39])) = q := ⟨_, rfl⟩
 rw [hq] at HK
 cases b with
 | true =>
  have hk : keyT s = s := by unfold keyT; rw [if_pos hb]
  rw [hk]
  clear hk hb hq
  first
  | (guard_hyp z44a; go_enter Tryz.func16, Tryz.ntmps16)
  | (go_enter Tryz.func17, Tryz.ntmps17)
  go_wp2_with fail
  refine HP.out.mono ?_
  rintro e w1 ⟨rfl, hb1⟩
  have HB1 := Lib.hid hb1
  clear hb1
  go_wp2_with fail
  go_ret
  exact ⟨rfl, HB1.out⟩
 | false =>
  have hk : keyT s = q := by unfold keyT; rw [if_neg (by rw [hb]; simp), hq]
  rw [hk]
  clear hk hb hq
  first
  | (guard_hyp z44a; go_enter Tryz.func16, Tryz.ntmps16)
  | (go_enter Tryz.func17, Tryz.ntmps17)
  go_wp2_with fail
  refine HP.out.mono ?_
  rintro e w1 ⟨rfl, hb1⟩
  have HB1 := Lib.hid hb1
  clear hb1
  go_wp2_with fail
  refine (HK.out _).mono ?_
  rintro e w2 ⟨rfl, hb2⟩
  have HB2 := Lib.hid (HB1.out.trans (hb2.mono HB1.out.size))
  clear hb2
  go_wp2_with fail
  go_ret
  exact ⟨rfl, HB2.out⟩) : P := h
set_option maxHeartbeats 4000000 in
theorem rkeyT_any (s : ByteArray) (w : World) (hs : s.size ≤ 1099511627776) : Calls Tryz.prog 17 #[.string s] w fun e w' => e = .returned (.string (keyT s)) ∧ Below w.heap.size w w' := by
 have z44b := trivial
 exact Sq44
set_option maxHeartbeats 4000000 in
theorem skeyT_any (s : ByteArray) (w : World) (hs : s.size ≤ 1099511627776) (hm : ML w) : Calls Tryz.prog 16 #[.string s] w fun e w' => e = .returned (.string (keyT s)) ∧ Below w.heap.size w w' := by
 have z44a := trivial
 exact Sq44
end Go.Proofs.YtndhpdclpgemfaaGreat

/- Parts Cont, SB, P1, S28, L1, L3, L4, L6, L7, L8 of this seat (pruned, scripts that are alike kept once as default arguments: q1, q2, ..). Conditions: each says its own. -/
import Derived.Shelf.Strings.BuilderCap
import Derived.Shelf.Strings.Shaped
import Derived.Shelf.Utf8.AppendRune
import Derived.Test.YtndhpdclpgemfaaGreatZ12
namespace Go.Proofs.YtndhpdclpgemfaaGreat
open Go.Shelf Go.Proofs Go.RowKit Go.Lib
def lays144_ren : Go.Shelf.Ren := ⟨fun | 144 => 101 | 143 => 135 | 219 => 146 | 217 => 150 | 225 => 151 | 224 => 152 | 267 => 153 | 266 => 156 | 314 => 157 | n => n, fun | 9 => 9 | 4 => 4 | 3 => 3 | 5 => 5 | 46 => 170 | 146 => 188 | 51 => 184 | n => n, fun | 1 => 0 | n => n⟩
theorem lays144 : Go.Proofs.Lays.n144 Tryz.prog lays144_ren := {
  mixed := by kernel_rfl
  f143 := Tryz.func135.trans (congrArg some (by kernel_rfl))
  f144 := Tryz.func101.trans (congrArg some (by kernel_rfl))
  f217 := Tryz.func150.trans (congrArg some (by kernel_rfl))
  f219 := Tryz.func146.trans (congrArg some (by kernel_rfl))
  f224 := Tryz.func152.trans (congrArg some (by kernel_rfl))
  f225 := Tryz.func151.trans (congrArg some (by kernel_rfl))
  f266 := Tryz.func156.trans (congrArg some (by kernel_rfl))
  f267 := Tryz.func153.trans (congrArg some (by kernel_rfl))
  f314 := Tryz.func157.trans (congrArg some (by kernel_rfl))
  t3 := Tryz.underlying3
  a3 := Tryz.isAgg3
  z3 := Tryz.sizeOf3
  v3 := Tryz.zeroValue3
  t4 := Tryz.underlying4
  a4 := Tryz.isAgg4
  z4 := Tryz.sizeOf4
  v4 := Tryz.zeroValue4
  t5 := Tryz.underlying5
  a5 := Tryz.isAgg5
  z5 := Tryz.sizeOf5
  v5 := Tryz.zeroValue5
  t9 := Tryz.underlying9
  a9 := Tryz.isAgg9
  z9 := Tryz.sizeOf9
  v9 := Tryz.zeroValue9
  t46 := Tryz.underlying170
  a46 := Tryz.isAgg170
  z46 := Tryz.sizeOf170
  v46 := Tryz.zeroValue170
  t51 := Tryz.underlying184
  a51 := Tryz.isAgg184
  z51 := Tryz.sizeOf184
  v51 := Tryz.zeroValue184
  t146 := Tryz.underlying188
  a146 := Tryz.isAgg188
  z146 := Tryz.sizeOf188
  v146 := Tryz.zeroValue188
  g1 := by kernel_rfl }
theorem strings_Contains_one (s : ByteArray) (c : UInt8) (w : World) :
    Calls Tryz.prog 101 #[.string s, .string ⟨#[c]⟩] w fun e w' => e = .returned (.bool (decide (0 ≤ Lib.indexByte s.data.toList c))) ∧ w' = w := Any.strings_Contains_one lays144 s c w
theorem strings_Contains (s sub : ByteArray) (m : Int) (w : World) (hs : s.size < 4294967281) (hm : w.cell? ⟨0, 0, none⟩ = some (.int .i64 m)) :
    Calls Tryz.prog 101 #[.string s, .string sub] w fun e w' => e = .returned (.bool (Lib.contains s.data.toList sub.data.toList)) ∧ w' = w := Any.strings_Contains lays144 s sub m w hs hm
end Go.Proofs.YtndhpdclpgemfaaGreat
namespace Go.Proofs.YtndhpdclpgemfaaGreat
theorem str_bulk {H : Type} {s : ByteArray} (h : Rows.uptoBulk (H := H) (.lit (.string s.data.toList)) ≤ 1048576) : s.size ≤ 1073741824 := by
 have hl : s.data.toList.length = s.size := by simp
 have : Rows.uptoBulk (H := H) (.lit (.string s.data.toList)) = s.data.toList.length + 1 := rfl
 omega
end Go.Proofs.YtndhpdclpgemfaaGreat
namespace Go.Proofs.YtndhpdclpgemfaaGreat
set_option maxRecDepth 100000
open Go.RowKit
set_option linter.unusedSimpArgs false
set_option linter.unusedVariables false
def In64 (n : Int) : Prop := -9223372036854775808 ≤ n ∧ n ≤ 9223372036854775807
instance (n : Int) : Decidable (In64 n) := by unfold In64; exact inferInstance
def chkV (n : Int) : Int := if In64 n then n else 0
def chkE (n : Int) : Int := if In64 n then 0 else 4
theorem chk_in {n : Int} (h : In64 n) : chkV n = n ∧ chkE n = 0 := by simp [chkV, chkE, h]
theorem chk_out {n : Int} (h : ¬ In64 n) : chkV n = 0 ∧ chkE n = 4 := by simp [chkV, chkE, h]
theorem ret_two {a b c d : Int} (h1 : a = c) (h2 : b = d) : Ending.returned (.tuple #[.int .i64 a, .int .i64 b]) = .returned (.tuple #[.int .i64 c, .int .i64 d]) := by rw [h1, h2]
theorem chk_cases (n : Int) : (In64 n ∧ chkV n = n ∧ chkE n = 0) ∨ (¬ In64 n ∧ chkV n = 0 ∧ chkE n = 4) := by
 by_cases h : In64 n
 ·exact .inl ⟨h, chk_in h⟩
 ·exact .inr ⟨h, chk_out h⟩
theorem ret_u64 {a b : Int} (h : a = b) : Ending.returned (.int .u64 a) = .returned (.int .u64 b) := by rw [h]
theorem size_any (a : Int) (w : World) (ha : In64 a) : Calls Tryz.prog 186 #[.int .i64 a] w fun e w' => e = .returned (.int .u64 (a.natAbs : Int)) ∧ w = w' := by
 by_cases h1 : a < 0
 all_goals
  go_enter Tryz.func186, Tryz.ntmps186
  go_wp2
  go_ret
  refine ⟨ret_u64 ?_, rfl⟩
  unfold In64 at ha
  simp only [IntKind.wrap_u64]
  omega
theorem signed_any (m : Int) (b : Bool) (w : World) (h0 : 0 ≤ m) (hm : m ≤ 18446744073709551615) : Calls Tryz.prog 133 #[.int .u64 m, .bool b] w fun e w' => e = .returned (.tuple #[.int .i64 (chkV (if b then -m else m)), .int .i64 (chkE (if b then -m else m))]) ∧ w = w' := by
 have HM := Lib.hid hm; clear hm
 have HC := Lib.hid (chk_cases (if b then -m else m))
 cases b
 ·by_cases h : m < 9223372036854775808
  all_goals
   go_enter Tryz.func133, Tryz.ntmps133
   go_wp2
   go_ret2
   have hc := HC.out
   have hm := HM.out
   simp only [In64, Bool.false_eq_true, if_false] at hc ⊢
   exact ⟨ret_two (by omega) (by omega), trivial⟩
 ·by_cases h : m ≤ 9223372036854775808
  all_goals
   go_enter Tryz.func133, Tryz.ntmps133
   go_wp2
   go_ret2
   have hc := HC.out
   have hm := HM.out
   simp only [In64, if_true] at hc ⊢
   refine ⟨ret_two ?_ ?_, trivial⟩
   ·first | omega | (simp only [IntKind.wrap_u64, wrap64]; omega)
   ·omega
theorem natAbs_le {a : Int} (ha : In64 a) : (a.natAbs : Int) ≤ 9223372036854775808 := by unfold In64 at ha; omega
end Go.Proofs.YtndhpdclpgemfaaGreat
namespace Go.Proofs.YtndhpdclpgemfaaGreat
open Go.RowKit
set_option linter.unusedVariables false
def Laid (t : Vt) : Prop := ∃ B w cs, IsV B w cs t
theorem Laid.head {k : Int} {b : Bool} {i : Int} {s : ByteArray} {l : List Vt} {ks : List ByteArray} (h : Laid (.mk k b i s l ks)) : In64 i ∧ ∀ (j : Nat) u, l[j]? = some u → Laid u := by
 obtain ⟨B, w, cs, h⟩ := h
 unfold IsV at h
 obtain ⟨la, lc, ka, kc, -, -, h2, -, -, -, -, -, hL⟩ := h
 exact ⟨h2, fun j u hu => by obtain ⟨_, _, cs', _, _, _, hV⟩ := hL.get j u hu; exact ⟨_, _, cs', hV⟩⟩
theorem MayE.unused {k : Int} {b : Bool} {i : Int} {s : ByteArray} {l : List Vt} {ks : List ByteArray} (h : MayE (.mk k b i s l ks)) : unusedV k b i s l.length ks.length = true := by
 cases h with
 | mk _ _ _ _ _ _ h1 h2 h3 h4 h5 => exact h4
def lgB (c : UInt8) : UInt8 := if 97 ≤ c.toNat ∧ c.toNat ≤ 122 then UInt8.ofNat (c.toNat - 32) else c
def largeL (l : List UInt8) : List UInt8 := l.map lgB
def wordsL : List (List UInt8) := [[77, 65, 84, 67, 72], [87, 72, 69, 82, 69], [85, 78, 87, 73, 78, 68], [65, 83], [87, 73, 84, 72], [67, 82, 69, 65, 84, 69], [77, 69, 82, 71, 69], [83, 69, 84], [82, 69, 77, 79, 86, 69], [68, 69, 76, 69, 84, 69], [68, 69, 84, 65, 67, 72], [82, 69, 84, 85, 82, 78], [68, 73, 83, 84, 73, 78, 67, 84], [79, 82, 68, 69, 82], [66, 89], [65, 83, 67], [68, 69, 83, 67], [83, 75, 73, 80], [76, 73, 77, 73, 84], [65, 78, 68], [79, 82], [88, 79, 82], [78, 79, 84], [73, 78], [73, 83], [78, 85, 76, 76], [84, 82, 85, 69], [70, 65, 76, 83, 69]]
def wordB (l : List UInt8) : Bool := decide (largeL l ∈ wordsL)
theorem has_nil (sub : List UInt8) (h : sub ≠ []) : Lib.contains [] sub = false := by
 unfold Lib.contains Lib.index
 rw [if_neg (by cases sub with | nil => exact absurd rfl h | cons c t => simp)]
 rfl
theorem index_ge (sub : List UInt8) : ∀ l, -1 ≤ Lib.index l sub := by
 intro l
 induction l with
 | nil => unfold Lib.index; split <;> omega
 | cons b l ih =>
  unfold Lib.index
  split
  ·omega
  ·split <;> omega
theorem has_cons (b : UInt8) (l sub : List UInt8) : Lib.contains (b :: l) sub = (sub.isPrefixOf (b :: l) || Lib.contains l sub) := by
 have h := index_ge sub l
 unfold Lib.contains
 rw [Lib.index]
 by_cases hp : sub.isPrefixOf (b :: l) = true
 ·rw [if_pos hp, hp]; rfl
 ·rw [if_neg hp]
  have hpf : sub.isPrefixOf (b :: l) = false := Bool.eq_false_iff.2 hp
  rw [hpf, Bool.false_or]
  by_cases hi : (Lib.index l sub == -1) = true
  ·rw [if_pos hi]
   have : Lib.index l sub = -1 := by simpa using hi
   rw [this]
  ·rw [if_neg hi]
   have : Lib.index l sub ≠ -1 := by simpa using hi
   rw [decide_eq_decide]
   omega
theorem has_skip (w r sub : List UInt8) (h : ∀ c ∈ w, c ≠ 32) : Lib.contains (w ++ r) (32 :: sub) = Lib.contains r (32 :: sub) := by
 induction w with
 | nil => rfl
 | cons c w ih =>
  rw [List.cons_append, has_cons, ih (fun d hd => h d (by simp [hd]))]
  have hc := h c (by simp)
  have : (32 :: sub).isPrefixOf (c :: (w ++ r)) = false := by
   simp only [List.isPrefixOf]
   rw [beq_eq_false_iff_ne.2 (Ne.symm hc), Bool.false_and]
  rw [this, Bool.false_or]
theorem pre_word (W w r : List UInt8) (hW : ∀ c ∈ W, c ≠ 32) (hw : ∀ c ∈ w, c ≠ 32) : (W ++ [32]).isPrefixOf (w ++ 32 :: r) = decide (W = w) := by
 induction W generalizing w with
 | nil =>
  cases w with
  | nil => simp
  | cons c w =>
   have hc := hw c (by simp)
   simp only [List.nil_append, List.cons_append, List.isPrefixOf]
   rw [beq_eq_false_iff_ne.2 (Ne.symm hc), Bool.false_and]
   simp
 | cons d W ih =>
  have hd := hW d (by simp)
  cases w with
  | nil =>
   simp only [List.nil_append, List.cons_append, List.isPrefixOf]
   rw [beq_eq_false_iff_ne.2 hd, Bool.false_and]
   simp
  | cons c w =>
   simp only [List.cons_append, List.isPrefixOf]
   rw [ih w (fun x hx => hW x (by simp [hx])) (fun x hx => hw x (by simp [hx]))]
   by_cases hdc : d = c
   ·subst hdc; simp
   ·rw [beq_eq_false_iff_ne.2 hdc, Bool.false_and]; simp [hdc]
theorem has_words (W : List UInt8) (hW : ∀ c ∈ W, c ≠ 32) : ∀ ws : List (List UInt8), (∀ w ∈ ws, ∀ c ∈ w, c ≠ 32) → Lib.contains (ws.flatMap (fun w => 32 :: w) ++ [32]) (32 :: (W ++ [32])) = decide (W ∈ ws) := by
 intro ws
 induction ws with
 | nil =>
  intro _
  rw [List.flatMap_nil, List.nil_append, has_cons, has_nil _ (by simp)]
  simp [List.isPrefixOf]
 | cons w ws ih =>
  intro h
  have h0 := h w (by simp)
  have h1 := ih (fun u hu => h u (by simp [hu]))
  rw [List.flatMap_cons, List.cons_append, List.cons_append, has_cons, List.append_assoc, has_skip w _ _ h0, h1]
  have hr : ∃ r, ws.flatMap (fun w => 32 :: w) ++ [32] = 32 :: r := by
   cases ws with
   | nil => exact ⟨[], rfl⟩
   | cons u us => exact ⟨_, by rw [List.flatMap_cons]; rfl⟩
  obtain ⟨r, hr⟩ := hr
  rw [hr]
  simp only [List.isPrefixOf, beq_self_eq_true, Bool.true_and]
  rw [pre_word W w r hW h0]
  simp [List.mem_cons]
theorem words_facts : ∀ w ∈ wordsL, (1 ≤ w.length ∧ w.length ≤ 64) ∧ ∀ c ∈ w, 65 ≤ c.toNat ∧ c.toNat ≤ 90 := by decide
theorem lgB_letter : ∀ c : Fin 256, 65 ≤ (lgB (UInt8.ofNat c.val)).toNat ∧ (lgB (UInt8.ofNat c.val)).toNat ≤ 90 → letter c.val = true := by decide +kernel
theorem lgB_nchar : ∀ c : Fin 256, nchar c.val = true → lgB (UInt8.ofNat c.val) ≠ 32 := by decide +kernel
theorem wordB_name {l : List UInt8} (h : wordB l = true) : nameB l = true := by
 have hm := of_decide_eq_true h
 obtain ⟨h1, h2⟩ := words_facts _ hm
 unfold largeL at h1 h2
 rw [List.length_map] at h1
 have hL : ∀ k, k < l.length → letter (nb l k) = true := fun k hk => by
  have h3 := h2 (lgB l[k]) (List.mem_map.2 ⟨l[k], List.getElem_mem hk, rfl⟩)
  have h4 := lgB_letter ⟨l[k].toNat, l[k].toNat_lt⟩
  simp only [UInt8.ofNat_toNat] at h4
  unfold nb
  rw [List.getElem?_eq_getElem hk]
  exact h4 h3
 exact decide_eq_true ⟨h1.1, h1.2, hL 0 (by omega), fun k hk => letter_nchar (hL k hk)⟩
theorem wordB_no {l : List UInt8} (h : nameB l = false) : wordB l = false := by
 cases hw : wordB l with
 | false => rfl
 | true => rw [wordB_name hw] at h; cases h
theorem wordB_has {l : List UInt8} (h : nameB l = true) : Lib.contains (wordsL.flatMap (fun w => 32 :: w) ++ [32]) (32 :: (largeL l ++ [32])) = wordB l := by
 refine has_words _ (fun c hc => ?_) _ (fun w hw c hc e => by have := (words_facts w hw).2 c hc; rw [e] at this; revert this; decide)
 obtain ⟨d, hd, rfl⟩ := List.mem_map.1 hc
 have hn := (of_decide_eq_true h).2.2.2
 obtain ⟨k, hk, rfl⟩ := List.getElem_of_mem hd
 have h1 := hn k hk
 unfold nb at h1
 rw [List.getElem?_eq_getElem hk] at h1
 have h4 := lgB_nchar ⟨l[k].toNat, l[k].toNat_lt⟩ h1
 simpa only [UInt8.ofNat_toNat] using h4
end Go.Proofs.YtndhpdclpgemfaaGreat
namespace Go.Proofs.YtndhpdclpgemfaaGreat
open Go.RowKit Go.Shelf
set_option linter.unusedSimpArgs false
set_option linter.unusedVariables false
theorem lgB_yes {c : UInt8} (h1 : 97 ≤ c.toNat) (h2 : c.toNat ≤ 122) : ((lgB c).toNat : Int) = (c.toNat : Int) - 32 := by
 unfold lgB
 rw [if_pos ⟨h1, h2⟩]
 simp
 omega
theorem lgB_no {c : UInt8} (h : ¬ (97 ≤ c.toNat ∧ c.toNat ≤ 122)) : lgB c = c := by unfold lgB; rw [if_neg h]
def Row8 (w : World) (g : Nat) (l : List UInt8) : Prop := ∀ (j : Nat) c, l[j]? = some c → w.cell? ⟨g, j, none⟩ = some (.int .u8 c.toNat) ∧ w.frozen? ⟨g, j, none⟩ = false
theorem Row8.set {w : World} {g : Nat} {l : List UInt8} (h : Row8 w g l) {i : Nat} (hi : i < l.length) (c : UInt8) : Row8 (w.setCell ⟨g, i, none⟩ (.int .u8 c.toNat)) g (l.set i c) := by
 intro j d hd
 by_cases hj : i = j
 ·subst hj
  rw [List.getElem?_set_self hi] at hd
  cases hd
  obtain ⟨h1, h2⟩ := h i l[i] (List.getElem?_eq_getElem hi)
  exact ⟨World.cell?_setCell_same _ _ _ h1, by rw [World.frozen?_setCell]; exact h2⟩
 ·rw [List.getElem?_set_ne hj] at hd
  obtain ⟨h1, h2⟩ := h j d hd
  exact ⟨by rw [World.cell?_setCell_other _ _ _ _ (by intro e; injection e with _ e; exact hj e)]; exact h1, by rw [World.frozen?_setCell]; exact h2⟩
theorem Row8.of_string (w : World) (s : ByteArray) (cap : Nat) (e : TypeId) : Row8 (w.drew.alloc (.cells (bytesRow s cap) e ((bytesRow s cap).size, (bytesRow s cap).size + 1))) w.heap.size s.data.toList := by
 intro j c hc
 have hb : (w.drew.alloc (.cells (bytesRow s cap) e ((bytesRow s cap).size, (bytesRow s cap).size + 1))).heap[w.heap.size]? = some (.cells (bytesRow s cap) e ((bytesRow s cap).size, (bytesRow s cap).size + 1)) := by
  show (w.heap.push _)[w.heap.size]? = _
  simp
 have hjl := (List.getElem?_eq_some_iff.1 hc).1
 have hsz : j < (bytesRow s cap).size := by unfold bytesRow; simp at hjl ⊢; omega
 constructor
 ·simp only [World.cell?, hb]
  have : (bytesRow s cap)[j]? = some (.int .u8 c.toNat) := by
   unfold bytesRow
   rw [Array.getElem?_append_left (by simpa using hjl), Array.getElem?_map]
   rw [← Array.getElem?_toList, hc]; rfl
  simp [this]
 ·simp only [World.frozen?, hb]
  simp
  omega
def lgTo (l : List UInt8) (i : Nat) : List UInt8 := (l.take i).map lgB ++ l.drop i
theorem lgTo_len (l : List UInt8) (i : Nat) : (lgTo l i).length = l.length := by unfold lgTo; simp; omega
theorem lgTo_zero (l : List UInt8) : lgTo l 0 = l := by unfold lgTo; simp
theorem lgTo_all (l : List UInt8) (i : Nat) (h : l.length ≤ i) : lgTo l i = largeL l := by unfold lgTo largeL; rw [List.take_of_length_le h, List.drop_of_length_le h, List.append_nil]
theorem lgTo_at {l : List UInt8} {i : Nat} (h : i < l.length) : (lgTo l i)[i]? = some l[i] := by
 unfold lgTo
 rw [List.getElem?_append_right (by simp; omega)]
 simp only [List.length_map, List.length_take]
 rw [Nat.min_eq_left (by omega), Nat.sub_self, List.getElem?_drop, Nat.add_zero, List.getElem?_eq_getElem h]
theorem lgTo_succ {l : List UInt8} {i : Nat} (h : i < l.length) : lgTo l (i + 1) = (lgTo l i).set i (lgB l[i]) := by
 unfold lgTo
 rw [List.take_succ_eq_append_getElem h, List.map_append, List.append_assoc, List.set_append_right _ _ (by simp; omega)]
 simp only [List.length_map, List.length_take]
 rw [Nat.min_eq_left (by omega), Nat.sub_self, List.drop_eq_getElem_cons h]
 rfl
theorem lgTo_same {l : List UInt8} {i : Nat} (h : i < l.length) (hb : lgB l[i] = l[i]) : lgTo l (i + 1) = lgTo l i := by
 rw [lgTo_succ h, hb]
 apply List.ext_getElem?
 intro j
 by_cases hj : i = j
 ·subst hj
  rw [List.getElem?_set_self (by rw [lgTo_len]; exact h), lgTo_at h]
 ·rw [List.getElem?_set_ne hj]
set_option maxRecDepth 1000000 in
set_option maxHeartbeats 4000000 in
theorem large_any (s : ByteArray) (w : World) (hs : s.size ≤ 1099511627776) :
    Calls Tryz.prog 128 #[.string s] w fun e w' => e = .returned (.string (strOf (largeL s.data.toList))) ∧ Below w.heap.size w w' := by
 have HLN : Hid (s.data.toList.length = s.size) := Lib.hid (by simp)
 have hcv := run_bytes_of_string (P := Tryz.prog) w 9 72 5 s Tryz.underlying9 Tryz.underlying72 Tryz.underlying5
 have HROW := Lib.hid (Row8.of_string w s (grownCap w s.size 0 5) 5)
 have hb0 : Below w.heap.size w (w.drew.alloc (.cells (bytesRow s (grownCap w s.size 0 5)) 5 ((bytesRow s (grownCap w s.size 0 5)).size, (bytesRow s (grownCap w s.size 0 5)).size + 1))) := ((Below.refl _ _).drew).alloc (Nat.le_refl _) _
 have HB0 := Lib.hid hb0
 clear hb0
 generalize grownCap w s.size 0 5 = cap at *
 generalize (w.drew.alloc (.cells (bytesRow s cap) 5 ((bytesRow s cap).size, (bytesRow s cap).size + 1))) = W1 at *
 go_enter Tryz.func128, Tryz.ntmps128
 go_wp2_with fail
 go_loopw [10] (fun k wr => ∃ (i : Nat), k = .int .i64 i ∧ Row8 wr w.heap.size (lgTo s.data.toList i) ∧ i ≤ s.size ∧ Below w.heap.size w wr) (fun k _ => s.size - (intOf k).toNat)
 case atStart => exact ⟨0, rfl, by rw [lgTo_zero]; exact HROW.out, Nat.zero_le _, HB0.out⟩
 case round =>
  obtain ⟨i, rfl, hrow, hil, hbr⟩ := hrel
  have HBR := Lib.hid hbr
  have HR := Lib.hid hrow
  clear hbr hrow hcv
  by_cases hp : i < s.size
  ·have hp' : (i : Int) < s.size := by omega
   have p0 : (0 : Int) ≤ (i : Int) := by omega
   have hpl : i < s.data.toList.length := by rw [HLN.out]; exact hp
   obtain ⟨g1, g2⟩ := HR.out i _ (lgTo_at hpl)
   have HSU := Lib.hid (lgTo_succ hpl)
   have HSA := Lib.hid (lgTo_same hpl)
   have hset := HR.out.set (i := i) (by rw [lgTo_len]; exact hpl) (lgB s.data.toList[i])
   have HSET := Lib.hid hset
   have hc : (s.data.toList[i]).toNat < 256 := by have := (s.data.toList[i]).toNat_lt; omega
   have HY := Lib.hid (@lgB_yes s.data.toList[i])
   have HNO := Lib.hid (@lgB_no s.data.toList[i])
   clear hset
   generalize s.data.toList[i] = c at *
   by_cases c1 : 97 ≤ c.toNat
   ·have d1 : (97 : Int) ≤ c.toNat := by omega
    by_cases c2 : c.toNat ≤ 122
    ·have d2 : (c.toNat : Int) ≤ 122 := by omega
     have hy := HY.out c1 c2
     have HYY := Lib.hid hy
     clear hy
     go_wp2_with fail
     go_roundw
     case rel => exact ⟨i + 1, by go_num, by have h := HSET.out; rw [HYY.out, ← HSU.out] at h; exact h, by omega, HBR.out.setCell (Nat.le_refl _) _⟩
     case measure => simp [intOf]; omega
    ·have d2 : ¬ (c.toNat : Int) ≤ 122 := by omega
     go_wp2_with fail
     go_roundw
     case rel => exact ⟨i + 1, by go_num, by rw [HSA.out (HNO.out (by omega))]; exact HR.out, by omega, HBR.out⟩
     case measure => simp [intOf]; omega
   ·have d1 : ¬ (97 : Int) ≤ c.toNat := by omega
    go_wp2_with fail
    go_roundw
    case rel => exact ⟨i + 1, by go_num, by rw [HSA.out (HNO.out (by omega))]; exact HR.out, by omega, HBR.out⟩
    case measure => simp [intOf]; omega
  ·have hp' : ¬ (i : Int) < s.size := by omega
   have HT : Hid (lgTo s.data.toList i = largeL s.data.toList) := Lib.hid (lgTo_all _ _ (by rw [HLN.out]; omega))
   have hsz : s.size = (largeL s.data.toList).length := by unfold largeL; rw [List.length_map, HLN.out]
   have HSZ := Lib.hid hsz
   have hback := run_convert_bytes_back (P := Tryz.prog) wr 72 9 5 ⟨w.heap.size, 0, none⟩ cap (largeL s.data.toList) Tryz.underlying72 Tryz.underlying5 Tryz.underlying9 (fun j hj => by
    have h := HR.out
    rw [HT.out] at h
    rw [addr_add, Nat.zero_add]
    exact (h j _ (List.getElem?_eq_getElem hj)).1)
   rw [← HSZ.out] at hback
   clear hsz
   go_wp2_with fail
   go_ret
   exact ⟨rfl, HBR.out⟩
def wordR (l : List UInt8) : Value := if wordB l then .tuple #[.string (strOf (largeL l)), .bool true] else .tuple #[.string ⟨#[]⟩, .bool false]
def wordsK : ByteArray := { data := (([32, 77, 65, 84, 67, 72, 32, 87, 72, 69, 82, 69, 32, 85, 78, 87, 73, 78, 68, 32, 65, 83, 32, 87, 73, 84, 72, 32, 67, 82, 69, 65, 84, 69, 32, 77, 69].append [82, 71, 69, 32, 83, 69, 84, 32, 82, 69, 77, 79, 86, 69, 32, 68, 69, 76, 69, 84, 69, 32, 68, 69, 84, 65, 67, 72, 32, 82, 69, 84, 85, 82, 78, 32, 68]).append ([73, 83, 84, 73, 78, 67, 84, 32, 79, 82, 68, 69, 82, 32, 66, 89, 32, 65, 83, 67, 32, 68, 69, 83, 67, 32, 83, 75, 73, 80, 32, 76, 73, 77, 73, 84, 32].append [65, 78, 68, 32, 79, 82, 32, 88, 79, 82, 32, 78, 79, 84, 32, 73, 78, 32, 73, 83, 32, 78, 85, 76, 76, 32, 84, 82, 85, 69, 32, 70, 65, 76, 83, 69, 32])).toArray }
theorem wordsK_list : wordsK.data.toList = wordsL.flatMap (fun w => 32 :: w) ++ [32] := by decide +kernel
theorem wordsK_size : wordsK.size < 4294967281 := by decide +kernel
def mlA : Addr := ⟨0, 0, none⟩
theorem Se797557 {P : Prop} (h : P := by
 go_wp2_with fail
 refine (HNA.out _).mono ?_
 rintro e w2 ⟨rfl, hb2⟩
 have hcc := HCC.out w2 hb2
 have HB2 := Lib.hid hb2
 clear hb2
 go_wp2_with fail
 refine hcc.mono ?_
 rintro e w3 ⟨rfl, rfl⟩
 go_wp2_with fail
 go_ret2
 exact ⟨(by rw [HRR.out]; rfl), below_step HB1.out rfl HB2.out⟩) : P := h
set_option maxRecDepth 1000000 in
set_option maxHeartbeats 4000000 in
theorem word_any (s : ByteArray) (m : Int) (w : World) (hs : s.size ≤ 1099511627776) (hm : w.cell? mlA = some (.int .i64 m)) (hg : 0 < w.heap.size) :
    Calls Tryz.prog 90 #[.string s] w fun e w' => e = .returned (wordR s.data.toList) ∧ Below w.heap.size w w' := by
 obtain ⟨R, hR⟩ := nam (wordR s.data.toList)
 have HR := Lib.hid hR
 rw [hR]
 clear hR
 have HM := Lib.hid hm
 clear hm
 have HL := Lib.hid (fun (b : Bool) (h : nameB s.data.toList = true) => wordB_has h)
 obtain ⟨nb', hnb⟩ : ∃ nb', nameB s.data.toList = nb' := ⟨_, rfl⟩
 have HNA := Lib.hid (fun w => sname_any s w hs)
 rw [hnb] at HNA
 have HNB := Lib.hid hnb
 clear hnb
 go_enter Tryz.func90, Tryz.ntmps90
 go_wp2_with fail
 refine (large_any s _ hs).mono ?_
 rintro e w1 ⟨rfl, hb1⟩
 have HB1 := Lib.hid hb1
 have HM1 : Hid (w1.cell? mlA = some (.int .i64 m)) := Lib.hid (by rw [hb1.cell (by show 0 < w.heap.size; exact hg)]; exact HM.out)
 have hg1 : 0 < w1.heap.size := Nat.lt_of_lt_of_le hg hb1.size
 clear hb1
 cases nb' with
 | false =>
  have hr : R = .tuple #[.string ⟨#[]⟩, .bool false] := by rw [← HR.out]; unfold wordR; rw [wordB_no HNB.out]; rfl
  have HRR := Lib.hid hr
  clear hr
  go_wp2_with fail
  refine (HNA.out _).mono ?_
  rintro e w2 ⟨rfl, hb2⟩
  have HB2 := Lib.hid hb2
  clear hb2
  go_wp2_with fail
  go_ret2
  exact ⟨(by rw [HRR.out]; rfl), below_step HB1.out rfl HB2.out⟩
 | true =>
  have hsub : (⟨#[32]⟩ ++ strOf (largeL s.data.toList) ++ ⟨#[32]⟩ : ByteArray).data.toList = 32 :: (largeL s.data.toList ++ [32]) := by simp [strOf]
  have hc : ∀ w2, Below w1.heap.size w1 w2 → Calls Tryz.prog 101 #[.string wordsK, .string (⟨#[32]⟩ ++ strOf (largeL s.data.toList) ++ ⟨#[32]⟩)] w2 fun e w' => e = .returned (.bool (wordB s.data.toList)) ∧ w' = w2 := fun w2 hb2 => by
   refine (strings_Contains wordsK _ m w2 wordsK_size (by have := hb2.cell (p := mlA) hg1; show w2.cell? mlA = _; rw [this]; exact HM1.out)).mono ?_
   rintro e w' ⟨rfl, rfl⟩
   refine ⟨?_, rfl⟩
   rw [wordsK_list, hsub, wordB_has HNB.out]
  have HCC := Lib.hid hc
  clear hc hsub HL
  obtain ⟨wb, hwb⟩ := nam (wordB s.data.toList)
  rw [hwb] at HCC
  have hr : R = if wb then .tuple #[.string (strOf (largeL s.data.toList)), .bool true] else .tuple #[.string ⟨#[]⟩, .bool false] := by rw [← HR.out]; unfold wordR; rw [hwb]
  have HRR := Lib.hid hr
  clear hr hwb
  have hxs : (strOf (largeL s.data.toList)).size = s.size := by rw [strOf_size]; unfold largeL; simp
  have hxt : (⟨#[32]⟩ ++ strOf (largeL s.data.toList) : ByteArray).size = 1 + s.size := by rw [ByteArray.size_append, hxs]; rfl
  generalize strOf (largeL s.data.toList) = X at *
  cases wb with
  | true =>
   exact Se797557
  | false =>
   exact Se797557
def twosL : List (List UInt8) := [[60, 61], [62, 61], [60, 62]]
def signsL : List (List UInt8) := [[40], [41], [91], [93], [123], [125], [44], [58], [46], [43], [45], [42], [47], [37], [61], [60], [62], [36]]
def signL (r : List UInt8) : List UInt8 := if r.take 2 ∈ twosL then r.take 2 else if r.take 1 ∈ signsL then r.take 1 else []
def signsK : ByteArray := { data := #[40, 41, 91, 93, 123, 125, 44, 58, 46, 43, 45, 42, 47, 37, 61, 60, 62, 36] }
theorem twosL_len : ∀ l ∈ twosL, l.length = 2 := by decide
end Go.Proofs.YtndhpdclpgemfaaGreat

/- Parts SB, L1, L3, L4, L6, L7, L8, L2, L9, L12, L13, L14 of this seat (pruned, scripts that are alike kept once as default arguments: q1, q2, ..). Conditions: each says its own. -/
import Derived.Test.YteljlahcdipilaaGreatG9
set_option linter.unusedSimpArgs false
set_option linter.unusedVariables false
set_option maxRecDepth 1000000
set_option maxHeartbeats 64000000
namespace Go.Proofs.YteljlahcdipilaaGreat
theorem str_bulk {H : Type} {s : ByteArray} (h : Rows.uptoBulk (H := H) (.lit (.string s.data.toList)) <= 1048576) : s.size <= 1073741824 := by
 have hl : s.data.toList.length = s.size := by simp
 have : Rows.uptoBulk (H := H) (.lit (.string s.data.toList)) = s.data.toList.length + 1 := rfl;omega
end Go.Proofs.YteljlahcdipilaaGreat
namespace Go.Proofs.YteljlahcdipilaaGreat
open Go.RowKit
def lH (c : UInt8) : UInt8 := if 97 <= c.toNat /\ c.toNat <= 122 then UInt8.ofNat (c.toNat - 32) else c
def bU (l : List UInt8) : List UInt8 := l.map lH
def iN : List (List UInt8) := [[77, 65, 84, 67, 72], [87, 72, 69, 82, 69], [85, 78, 87, 73, 78, 68], [65, 83], [87, 73, 84, 72], [67, 82, 69, 65, 84, 69], [77, 69, 82, 71, 69], [83, 69, 84], [82, 69, 77, 79, 86, 69], [68, 69, 76, 69, 84, 69], [68, 69, 84, 65, 67, 72], [82, 69, 84, 85, 82, 78], [68, 73, 83, 84, 73, 78, 67, 84], [79, 82, 68, 69, 82], [66, 89], [65, 83, 67], [68, 69, 83, 67], [83, 75, 73, 80], [76, 73, 77, 73, 84], [65, 78, 68], [79, 82], [88, 79, 82], [78, 79, 84], [73, 78], [73, 83], [78, 85, 76, 76], [84, 82, 85, 69], [70, 65, 76, 83, 69]]
def ew (l : List UInt8) : Bool := decide (bU l ∈ iN)
theorem yh (sub : List UInt8) (h : sub ≠ []) : Lib.contains [] sub = false := by
 unfold Lib.contains Lib.index;rw [if_neg (by cases sub with | nil => exact absurd rfl h | cons c t => simp)];rfl
theorem vf (sub : List UInt8) : ∀ l, -1 <= Lib.index l sub := by
 intro l
 induction l with
 | nil => unfold Lib.index; split <;> omega
 | cons b l ih =>
  unfold Lib.index
  split
  ·omega
  ·split <;> omega
theorem ky (b : UInt8) (l sub : List UInt8) : Lib.contains (b :: l) sub = (sub.isPrefixOf (b :: l) || Lib.contains l sub) := by
 have h := vf sub l;unfold Lib.contains;rw [Lib.index]
 by_cases hp : sub.isPrefixOf (b :: l) = true
 ·rw [if_pos hp, hp]; rfl
 ·rw [if_neg hp];have hpf : sub.isPrefixOf (b :: l) = false := Bool.eq_false_iff.2 hp;rw [hpf, Bool.false_or]
  by_cases hi : (Lib.index l sub == -1) = true
  ·rw [if_pos hi];have : Lib.index l sub = -1 := by simpa using hi
   rw [this]
  ·rw [if_neg hi];have : Lib.index l sub ≠ -1 := by simpa using hi
   rw [decide_eq_decide];omega
theorem vg (w r sub : List UInt8) (h : ∀ c ∈ w, c ≠ 32) : Lib.contains (w ++ r) (32 :: sub) = Lib.contains r (32 :: sub) := by
 induction w with
 | nil => rfl
 | cons c w ih =>
  rw [List.cons_append, ky, ih (fun d hd => h d (by simp [hd]))];have hc := h c (by simp);have : (32 :: sub).isPrefixOf (c :: (w ++ r)) = false := by
   simp only [List.isPrefixOf];rw [beq_eq_false_iff_ne.2 (Ne.symm hc), Bool.false_and]
  rw [this, Bool.false_or]
theorem vh (W w r : List UInt8) (hW : ∀ c ∈ W, c ≠ 32) (hw : ∀ c ∈ w, c ≠ 32) : (W ++ [32]).isPrefixOf (w ++ 32 :: r) = decide (W = w) := by
 induction W generalizing w with
 | nil =>
  cases w with
  | nil => simp
  | cons c w =>
   have hc := hw c (by simp);simp only [List.nil_append, List.cons_append, List.isPrefixOf];rw [beq_eq_false_iff_ne.2 (Ne.symm hc), Bool.false_and];simp
 | cons d W ih =>
  have hd := hW d (by simp);cases w with
  | nil =>
   simp only [List.nil_append, List.cons_append, List.isPrefixOf];rw [beq_eq_false_iff_ne.2 hd, Bool.false_and];simp
  | cons c w =>
   simp only [List.cons_append, List.isPrefixOf];rw [ih w (fun x hx => hW x (by simp [hx])) (fun x hx => hw x (by simp [hx]))]
   by_cases hdc : d = c
   ·subst hdc; simp
   ·rw [beq_eq_false_iff_ne.2 hdc, Bool.false_and]; simp [hdc]
theorem tf (W : List UInt8) (hW : ∀ c ∈ W, c ≠ 32) : ∀ ws : List (List UInt8), (∀ w ∈ ws, ∀ c ∈ w, c ≠ 32) -> Lib.contains (ws.flatMap (fun w => 32 :: w) ++ [32]) (32 :: (W ++ [32])) = decide (W ∈ ws) := by
 intro ws
 induction ws with
 | nil =>
  intro _;rw [List.flatMap_nil, List.nil_append, ky, yh _ (by simp)];simp [List.isPrefixOf]
 | cons w ws ih =>
  intro h;have h0 := h w (by simp);have h1 := ih (fun u hu => h u (by simp [hu]));rw [List.flatMap_cons, List.cons_append, List.cons_append, ky, List.append_assoc, vg w _ _ h0, h1];have hr : ∃ r, ws.flatMap (fun w => 32 :: w) ++ [32] = 32 :: r := by
   cases ws with
   | nil => exact ⟨[], rfl⟩
   | cons u us => exact ⟨_, by rw [List.flatMap_cons]; rfl⟩
  obtain ⟨r, hr⟩ := hr;rw [hr];simp only [List.isPrefixOf, beq_self_eq_true, Bool.true_and];rw [vh W w r hW h0];simp [List.mem_cons]
theorem jQ : ∀ w ∈ iN, (1 <= w.length /\ w.length <= 64) /\ ∀ c ∈ w, 65 <= c.toNat /\ c.toNat <= 90 := by decide
theorem qD : ∀ c : Fin 256, 65 <= (lH (UInt8.ofNat c.val)).toNat /\ (lH (UInt8.ofNat c.val)).toNat <= 90 -> aV c.val = true := by decide +kernel
theorem tg : ∀ c : Fin 256, bf c.val = true -> lH (UInt8.ofNat c.val) ≠ 32 := by decide +kernel
theorem qE {l : List UInt8} (h : ew l = true) : gz l = true := by
 have hm := of_decide_eq_true h;obtain ⟨h1, h2⟩ := jQ _ hm;unfold bU at h1 h2;rw [List.length_map] at h1;have hL : ∀ k, k < l.length -> aV (nb l k) = true := fun k hk => by
  have h3 := h2 (lH l[k]) (List.mem_map.2 ⟨l[k], List.getElem_mem hk, rfl⟩);have h4 := qD ⟨l[k].toNat, l[k].toNat_lt⟩;simp only [UInt8.ofNat_toNat] at h4;unfold nb;rw [List.getElem?_eq_getElem hk];exact h4 h3
 exact decide_eq_true ⟨h1.1, h1.2, hL 0 (by omega), fun k hk => fj (hL k hk)⟩
theorem vj {l : List UInt8} (h : gz l = false) : ew l = false := by
 cases hw : ew l with
 | false => rfl
 | true => rw [qE hw] at h; cases h
theorem lV {l : List UInt8} (h : gz l = true) : Lib.contains (iN.flatMap (fun w => 32 :: w) ++ [32]) (32 :: (bU l ++ [32])) = ew l := by
 refine tf _ (fun c hc => ?_) _ (fun w hw c hc e => by have := (jQ w hw).2 c hc; rw [e] at this; revert this; decide);obtain ⟨d, hd, rfl⟩ := List.mem_map.1 hc;have hn := (of_decide_eq_true h).2.2.2;obtain ⟨k, hk, rfl⟩ := List.getElem_of_mem hd;have h1 := hn k hk;unfold nb at h1;rw [List.getElem?_eq_getElem hk] at h1;have h4 := tg ⟨l[k].toNat, l[k].toNat_lt⟩ h1;simpa only [UInt8.ofNat_toNat] using h4
end Go.Proofs.YteljlahcdipilaaGreat
namespace Go.Proofs.YteljlahcdipilaaGreat
open Go.RowKit Go.Shelf
theorem yi {c : UInt8} (h1 : 97 <= c.toNat) (h2 : c.toNat <= 122) : ((lH c).toNat : Int) = (c.toNat : Int) - 32 := by
 unfold lH;rw [if_pos ⟨h1, h2⟩];simp;omega
theorem Am {c : UInt8} (h : ¬ (97 <= c.toNat /\ c.toNat <= 122)) : lH c = c := by unfold lH; rw [if_neg h]
def mZ (w : World) (g : Nat) (l : List UInt8) : Prop := ∀ (j : Nat) c, l[j]? = some c -> w.cell? ⟨g, j, none⟩ = some (.int .u8 c.toNat) /\ w.frozen? ⟨g, j, none⟩ = false
theorem mZ.set {w : World} {g : Nat} {l : List UInt8} (h : mZ w g l) {i : Nat} (hi : i < l.length) (c : UInt8) : mZ (w.setCell ⟨g, i, none⟩ (.int .u8 c.toNat)) g (l.set i c) := by
 intro j d hd
 by_cases hj : i = j
 ·subst hj;rw [List.getElem?_set_self hi] at hd;cases hd;obtain ⟨h1, h2⟩ := h i l[i] (List.getElem?_eq_getElem hi);exact ⟨World.cell?_setCell_same _ _ _ h1, by rw [World.frozen?_setCell]; exact h2⟩
 ·rw [List.getElem?_set_ne hj] at hd;obtain ⟨h1, h2⟩ := h j d hd;exact ⟨by rw [World.cell?_setCell_other _ _ _ _ (by intro e; injection e with _ e; exact hj e)]; exact h1, by rw [World.frozen?_setCell]; exact h2⟩
theorem mZ.of_string (w : World) (s : ByteArray) (cap : Nat) (e : TypeId) : mZ (w.drew.alloc (.cells (bytesRow s cap) e ((bytesRow s cap).size, (bytesRow s cap).size + 1))) w.heap.size s.data.toList := by
 intro j c hc;have hb : (w.drew.alloc (.cells (bytesRow s cap) e ((bytesRow s cap).size, (bytesRow s cap).size + 1))).heap[w.heap.size]? = some (.cells (bytesRow s cap) e ((bytesRow s cap).size, (bytesRow s cap).size + 1)) := by
  show (w.heap.push _)[w.heap.size]? = _;simp
 have hjl := (List.getElem?_eq_some_iff.1 hc).1;have hsz : j < (bytesRow s cap).size := by unfold bytesRow; simp at hjl ⊢; omega
 constructor
 ·simp only [World.cell?, hb];have : (bytesRow s cap)[j]? = some (.int .u8 c.toNat) := by
   unfold bytesRow;rw [Array.getElem?_append_left (by simpa using hjl), Array.getElem?_map];rw [<- Array.getElem?_toList, hc]; rfl
  simp [this]
 ·simp only [World.frozen?, hb];simp;omega
def iO (l : List UInt8) (i : Nat) : List UInt8 := (l.take i).map lH ++ l.drop i
theorem oF (l : List UInt8) (i : Nat) : (iO l i).length = l.length := by unfold iO; simp; omega
theorem th (l : List UInt8) : iO l 0 = l := by unfold iO; simp
theorem vm (l : List UInt8) (i : Nat) (h : l.length <= i) : iO l i = bU l := by unfold iO bU; rw [List.take_of_length_le h, List.drop_of_length_le h, List.append_nil]
theorem rT {l : List UInt8} {i : Nat} (h : i < l.length) : (iO l i)[i]? = some l[i] := by
 unfold iO;rw [List.getElem?_append_right (by simp; omega)];simp only [List.length_map, List.length_take];rw [Nat.min_eq_left (by omega), Nat.sub_self, List.getElem?_drop, Nat.add_zero, List.getElem?_eq_getElem h]
theorem lW {l : List UInt8} {i : Nat} (h : i < l.length) : iO l (i + 1) = (iO l i).set i (lH l[i]) := by
 unfold iO;rw [List.take_succ_eq_append_getElem h, List.map_append, List.append_assoc, List.set_append_right _ _ (by simp; omega)];simp only [List.length_map, List.length_take];rw [Nat.min_eq_left (by omega), Nat.sub_self, List.drop_eq_getElem_cons h];rfl
theorem ti {l : List UInt8} {i : Nat} (h : i < l.length) (hb : lH l[i] = l[i]) : iO l (i + 1) = iO l i := by
 rw [lW h, hb];apply List.ext_getElem?;intro j
 by_cases hj : i = j
 ·subst hj;rw [List.getElem?_set_self (by rw [oF]; exact h), rT h]
 ·rw [List.getElem?_set_ne hj]
theorem Sq357469 {P : Prop} (h : P := by
 have hp' : (i : Int) < s.size := by omega
 have p0 : (0 : Int) <= (i : Int) := by omega
 have hpl : i < s.data.toList.length := by rw [HLN.out]; exact hp
 first
 |(
  guard_hyp z357469a
  obtain ⟨g1, g2⟩ := HR.out i _ (sM hpl);have HSU := aa (mJ (f := xZ) hpl);have HSA := aa (uy (f := xZ) hpl);have hset := HR.out.set (i := i) (by rw [qf]; exact hpl) (xZ s.data.toList[i]))
 |(
  obtain ⟨g1, g2⟩ := HR.out i _ (rT hpl);have HSU := aa (lW hpl);have HSA := aa (ti hpl);have hset := HR.out.set (i := i) (by rw [oF]; exact hpl) (lH s.data.toList[i]))
 have HSET := aa hset;have hc : (s.data.toList[i]).toNat < 256 := by have := (s.data.toList[i]).toNat_lt; omega
 first
 |(
  guard_hyp z357469a
  have HY := aa (@zP s.data.toList[i]);have HNO := aa (@Bk s.data.toList[i]))
 |(
  have HY := aa (@yi s.data.toList[i]);have HNO := aa (@Am s.data.toList[i]))
 clear hset;generalize s.data.toList[i] = c at *
 first
 | (guard_hyp z357469a; by_cases c1 : 65 <= c.toNat)
 | (by_cases c1 : 97 <= c.toNat)
 ·first
  |(
   guard_hyp z357469b
   have d1 : (97 : Int) <= c.toNat := by omega
   by_cases c2 : c.toNat <= 122)
  |(
   have d1 : (65 : Int) <= c.toNat := by omega
   by_cases c2 : c.toNat <= 90)
  ·first
   | (guard_hyp z357469b; have d2 : (c.toNat : Int) <= 122 := by omega)
   | (have d2 : (c.toNat : Int) <= 90 := by omega)
   have hy := HY.out c1 c2;have HYY := aa hy;clear hy;go_wp2_with fail;go_roundw;case rel => exact ⟨i + 1, by go_num, by have h := HSET.out; rw [HYY.out, <- HSU.out] at h; exact h, by omega, HBR.out.setCell (Nat.le_refl _) _⟩
   case measure => simp [intOf]; omega
  ·first
   | (guard_hyp z357469b; have d2 : ¬ (c.toNat : Int) <= 122 := by omega)
   | (have d2 : ¬ (c.toNat : Int) <= 90 := by omega)
   go_wp2_with fail;go_roundw;case rel => exact ⟨i + 1, by go_num, by rw [HSA.out (HNO.out (by omega))]; exact HR.out, by omega, HBR.out⟩
   case measure => simp [intOf]; omega
 ·first
  | (guard_hyp z357469a; have d1 : ¬ (65 : Int) <= c.toNat := by omega)
  | (have d1 : ¬ (97 : Int) <= c.toNat := by omega)
  go_wp2_with fail;go_roundw;case rel => exact ⟨i + 1, by go_num, by rw [HSA.out (HNO.out (by omega))]; exact HR.out, by omega, HBR.out⟩
  case measure => simp [intOf]; omega) : P := h
theorem tj (s : ByteArray) (w : World) (hs : s.size <= 1099511627776) :
    Calls Tryz.prog 71 #[.string s] w fun e w' => e = .returned (.string (ai (bU s.data.toList))) /\ Below w.heap.size w w' := by
 have HLN : Hid (s.data.toList.length = s.size) := aa (by simp);have hcv := run_bytes_of_string (P := Tryz.prog) w 9 75 5 s Tryz.underlying9 Tryz.underlying75 Tryz.underlying5;have HROW := aa (mZ.of_string w s (grownCap w s.size 0 5) 5);have hb0 : Below w.heap.size w (w.drew.alloc (.cells (bytesRow s (grownCap w s.size 0 5)) 5 ((bytesRow s (grownCap w s.size 0 5)).size, (bytesRow s (grownCap w s.size 0 5)).size + 1))) := ((Below.refl _ _).drew).alloc (Nat.le_refl _) _;have HB0 := aa hb0;clear hb0;generalize grownCap w s.size 0 5 = cap at *;generalize (w.drew.alloc (.cells (bytesRow s cap) 5 ((bytesRow s cap).size, (bytesRow s cap).size + 1))) = W1 at *;go_enter Tryz.func71, Tryz.ntmps71;go_wp2_with fail
 go_loopw [10] (fun k wr => ∃ (i : Nat), k = .int .i64 i /\ mZ wr w.heap.size (iO s.data.toList i) /\ i <= s.size /\ Below w.heap.size w wr) (fun k _ => s.size - (intOf k).toNat)
 case atStart => exact ⟨0, rfl, by rw [th]; exact HROW.out, Nat.zero_le _, HB0.out⟩
 case round =>
  obtain ⟨i, rfl, hrow, hil, hbr⟩ := hrel;have HBR := aa hbr;have HR := aa hrow;clear hbr hrow hcv
  by_cases hp : i < s.size
  ·have z357469b := trivial;exact Sq357469
  ·have hp' : ¬ (i : Int) < s.size := by omega
   have HT : Hid (iO s.data.toList i = bU s.data.toList) := aa (vm _ _ (by rw [HLN.out]; omega));have hsz : s.size = (bU s.data.toList).length := by unfold bU; rw [List.length_map, HLN.out]
   have HSZ := aa hsz;have hback := run_convert_bytes_back (P := Tryz.prog) wr 75 9 5 ⟨w.heap.size, 0, none⟩ cap (bU s.data.toList) Tryz.underlying75 Tryz.underlying5 Tryz.underlying9 (fun j hj => by
    have h := HR.out;rw [HT.out] at h;rw [fu, Nat.zero_add];exact (h j _ (List.getElem?_eq_getElem hj)).1)
   rw [<- HSZ.out] at hback;clear hsz;go_wp2_with fail;go_ret;exact ⟨rfl, HBR.out⟩
def kz (l : List UInt8) : Value := if ew l then .tuple #[.string (ai (bU l)), .bool true] else .tuple #[.string ⟨#[]⟩, .bool false]
def nd : ByteArray := { data := (([32, 77, 65, 84, 67, 72, 32, 87, 72, 69, 82, 69, 32, 85, 78, 87, 73, 78, 68, 32, 65, 83, 32, 87, 73, 84, 72, 32, 67, 82, 69, 65, 84, 69, 32, 77, 69].append [82, 71, 69, 32, 83, 69, 84, 32, 82, 69, 77, 79, 86, 69, 32, 68, 69, 76, 69, 84, 69, 32, 68, 69, 84, 65, 67, 72, 32, 82, 69, 84, 85, 82, 78, 32, 68]).append ([73, 83, 84, 73, 78, 67, 84, 32, 79, 82, 68, 69, 82, 32, 66, 89, 32, 65, 83, 67, 32, 68, 69, 83, 67, 32, 83, 75, 73, 80, 32, 76, 73, 77, 73, 84, 32].append [65, 78, 68, 32, 79, 82, 32, 88, 79, 82, 32, 78, 79, 84, 32, 73, 78, 32, 73, 83, 32, 78, 85, 76, 76, 32, 84, 82, 85, 69, 32, 70, 65, 76, 83, 69, 32])).toArray }
theorem oH : nd.data.toList = iN.flatMap (fun w => 32 :: w) ++ [32] := by decide +kernel
theorem oI : nd.size < 4294967281 := by decide +kernel
def yj : Addr := ⟨0, 0, none⟩
theorem Sq958708 {P : Prop} (h : P := by
 go_wp2_with fail;refine (HNA.out _).mono ?_;rintro e w2 ⟨rfl, hb2⟩;have hcc := HCC.out w2 hb2;have HB2 := aa hb2;clear hb2;go_wp2_with fail;refine hcc.mono ?_;rintro e w3 ⟨rfl, rfl⟩;go_wp2_with fail
 go_ret2
 exact ⟨(by rw [HRR.out]; rfl), aF HB1.out rfl HB2.out⟩) : P := h
theorem oJ (s : ByteArray) (m : Int) (w : World) (hs : s.size <= 1099511627776) (hm : w.cell? yj = some (.int .i64 m)) (hg : 0 < w.heap.size) :
    Calls Tryz.prog 40 #[.string s] w fun e w' => e = .returned (kz s.data.toList) /\ Below w.heap.size w w' := by
 obtain ⟨R, hR⟩ := nam (kz s.data.toList);have HR := aa hR;rw [hR];clear hR;have HM := aa hm;clear hm;have HL := aa (fun (b : Bool) (h : gz s.data.toList = true) => lV h);obtain ⟨nb', hnb⟩ : ∃ nb', gz s.data.toList = nb' := ⟨_, rfl⟩;have HNA := aa (fun w => lU s w hs);rw [hnb] at HNA;have HNB := aa hnb;clear hnb;go_enter Tryz.func40, Tryz.ntmps40;go_wp2_with fail;refine (tj s _ hs).mono ?_;rintro e w1 ⟨rfl, hb1⟩;have HB1 := aa hb1;have HM1 : Hid (w1.cell? yj = some (.int .i64 m)) := aa (by rw [hb1.cell (by show 0 < w.heap.size; exact hg)]; exact HM.out);have hg1 : 0 < w1.heap.size := Nat.lt_of_lt_of_le hg hb1.size;clear hb1;cases nb' with
 | false =>
  have hr : R = .tuple #[.string ⟨#[]⟩, .bool false] := by rw [<- HR.out]; unfold kz; rw [vj HNB.out]; rfl
  have HRR := aa hr;clear hr;go_wp2_with fail;refine (HNA.out _).mono ?_;rintro e w2 ⟨rfl, hb2⟩;have HB2 := aa hb2;clear hb2;go_wp2_with fail
  go_ret2
  exact ⟨(by rw [HRR.out]; rfl), aF HB1.out rfl HB2.out⟩
 | true =>
  have hsub : (⟨#[32]⟩ ++ ai (bU s.data.toList) ++ ⟨#[32]⟩ : ByteArray).data.toList = 32 :: (bU s.data.toList ++ [32]) := by simp [ai]
  have hc : ∀ w2, Below w1.heap.size w1 w2 -> Calls Tryz.prog 43 #[.string nd, .string (⟨#[32]⟩ ++ ai (bU s.data.toList) ++ ⟨#[32]⟩)] w2 fun e w' => e = .returned (.bool (ew s.data.toList)) /\ w' = w2 := fun w2 hb2 => by
   refine (strings_Contains nd _ m w2 oI (by have := hb2.cell (p := yj) hg1; show w2.cell? yj = _; rw [this]; exact HM1.out)).mono ?_;rintro e w' ⟨rfl, rfl⟩;refine ⟨?_, rfl⟩;rw [oH, hsub, lV HNB.out]
  have HCC := aa hc;clear hc hsub HL;obtain ⟨wb, hwb⟩ := nam (ew s.data.toList);rw [hwb] at HCC;have hr : R = if wb then .tuple #[.string (ai (bU s.data.toList)), .bool true] else .tuple #[.string ⟨#[]⟩, .bool false] := by rw [<- HR.out]; unfold kz; rw [hwb]
  have HRR := aa hr;clear hr hwb;have hxs : (ai (bU s.data.toList)).size = s.size := by rw [aj]; unfold bU; simp
  have hxt : (⟨#[32]⟩ ++ ai (bU s.data.toList) : ByteArray).size = 1 + s.size := by rw [ByteArray.size_append, hxs]; rfl
  generalize ai (bU s.data.toList) = X at *;cases wb with
  | true =>
   exact Sq958708
  | false =>
   exact Sq958708
def fw : List (List UInt8) := [[60, 61], [62, 61], [60, 62]]
def ej : List (List UInt8) := [[40], [41], [91], [93], [123], [125], [44], [58], [46], [43], [45], [42], [47], [37], [61], [60], [62], [36]]
def dj (r : List UInt8) : List UInt8 := if r.take 2 ∈ fw then r.take 2 else if r.take 1 ∈ ej then r.take 1 else []
def kA : ByteArray := { data := #[40, 41, 91, 93, 123, 125, 44, 58, 46, 43, 45, 42, 47, 37, 61, 60, 62, 36] }
theorem ey : ∀ l ∈ fw, l.length = 2 := by decide
end Go.Proofs.YteljlahcdipilaaGreat
namespace Go.Proofs.YteljlahcdipilaaGreat
open Go.RowKit
def dk : List UInt8 -> Option Nat
  | [] => none
  | c :: r => if c = 39 then some 0 else if c = 92 then (match r with | [] => none | _ :: r' => (dk r').map (· + 2)) else (dk r).map (· + 1)
theorem ez (c : UInt8) (r : List UInt8) : dk (c :: r) = if c = 39 then some 0 else if c = 92 then (match r with | [] => none | _ :: r' => (dk r').map (· + 2)) else (dk r).map (· + 1) := by rw [dk.eq_def]
theorem lX (p r : List UInt8) (h : ∀ c ∈ p, c ≠ 39 /\ c ≠ 92) : dk (p ++ r) = (dk r).map (· + p.length) := by
 induction p with
 | nil => simp
 | cons c p ih =>
  have hc := h c (by simp);rw [List.cons_append, ez, if_neg hc.1, if_neg hc.2, ih (fun d hd => h d (by simp [hd]))];cases dk r with
  | none => rfl
  | some j => simp; omega
theorem yk {r : List UInt8} {j : Nat} : dk r = some j -> j < r.length := by
 induction hn : r.length using Nat.strongRecOn generalizing r j with
 | _ n ih =>
  intro h;cases r with
  | nil => simp [dk] at h
  | cons c r =>
   rw [ez] at h
   by_cases a : c = 39
   ·rw [if_pos a] at h; cases h; simp at hn; omega
   rw [if_neg a] at h
   by_cases b : c = 92
   ·rw [if_pos b] at h;cases r with
    | nil => cases h
    | cons d r =>
     dsimp only at h;cases hr : dk r with
     | none => rw [hr] at h; cases h
     | some i =>
      rw [hr] at h;have := ih r.length (by simp at hn; omega) rfl hr;cases h;show i + 2 < n;simp at hn; omega
   ·rw [if_neg b] at h;cases hr : dk r with
    | none => rw [hr] at h; cases h
    | some i =>
     rw [hr] at h;have := ih r.length (by simp at hn; omega) rfl hr;cases h;show i + 1 < n;simp at hn; omega
theorem dE (r : List UInt8) (j k : Nat) (h : k < j) : nb (r.take j) k = nb r k := by
 unfold nb;rw [List.getElem?_take, if_pos h]
theorem lY {c : Nat} (h : ¬ dx c < 0) : c ≠ 39 /\ c ≠ 92 := by
 constructor
 ·rintro rfl; exact h (by decide)
 ·rintro rfl; exact h (by decide)
theorem kB {r : List UInt8} {m : Nat} (hm : 2 <= m) (h : bQ r = none) : bQ (r.take m) = none := by
 by_cases h1 : r.length < 2
 ·exact kx (by rw [List.length_take]; omega)
 have n1 : nb (r.take m) 1 = nb r 1 := dE r m 1 (by omega);have hl : ¬ (r.take m).length < 2 := by rw [List.length_take]; omega
 unfold bQ at h;rw [if_neg h1] at h
 by_cases a1 : nb r 1 = 92 \/ nb r 1 = 39
 ·rw [if_pos a1] at h; cases h
 rw [if_neg a1] at h
 by_cases a2 : nb r 1 = 110
 ·rw [if_pos a2] at h; cases h
 rw [if_neg a2] at h
 by_cases a3 : nb r 1 = 116
 ·rw [if_pos a3] at h; cases h
 rw [if_neg a3] at h
 by_cases a4 : nb r 1 = 114
 ·rw [if_pos a4] at h; cases h
 rw [if_neg a4] at h
 by_cases a5 : r.length < 4 \/ nb r 1 ≠ 120 \/ dx (nb r 2) < 0 \/ dx (nb r 3) < 0
 ·refine ye hl (by omega) (by omega) (by omega) (by omega) (by omega) ?_
  by_cases h4 : (r.take m).length < 4
  ·exact .inl h4
  ·rw [List.length_take] at h4;rw [n1, dE r m 2 (by omega), dE r m 3 (by omega)];rcases a5 with a5 | a5
   ·omega
   ·exact .inr a5
 ·rw [if_neg a5] at h; cases h
theorem gL {r : List UInt8} {m : Nat} {x : UInt8} {n : Nat} (hm : n <= m) (h : bQ r = some (x, n)) : bQ (r.take m) = some (x, n) := by
 have hn := dt h;have hl : ¬ (r.take m).length < 2 := by rw [List.length_take]; omega
 have n1 : nb (r.take m) 1 = nb r 1 := dE r m 1 (by omega);unfold bQ at h;rw [if_neg (by omega)] at h
 by_cases a1 : nb r 1 = 92 \/ nb r 1 = 39
 ·rw [if_pos a1] at h;rw [uT hl (by omega), n1]; exact h
 rw [if_neg a1] at h
 by_cases a2 : nb r 1 = 110
 ·rw [if_pos a2] at h;rw [uU hl (by omega)]; exact h
 rw [if_neg a2] at h
 by_cases a3 : nb r 1 = 116
 ·rw [if_pos a3] at h;rw [uV hl (by omega)]; exact h
 rw [if_neg a3] at h
 by_cases a4 : nb r 1 = 114
 ·rw [if_pos a4] at h;rw [uW hl (by omega)]; exact h
 rw [if_neg a4] at h
 by_cases a5 : r.length < 4 \/ nb r 1 ≠ 120 \/ dx (nb r 2) < 0 \/ dx (nb r 3) < 0
 ·rw [if_pos a5] at h; cases h
 rw [if_neg a5] at h;have h4 : n = 4 := by injection h with h; injection h with _ h; exact h.symm
 subst h4;have n2 : nb (r.take m) 2 = nb r 2 := dE r m 2 (by omega);have n3 : nb (r.take m) 3 = nb r 3 := dE r m 3 (by omega);rw [uX (by rw [List.length_take]; omega) (by rw [n1]; exact Classical.byContradiction fun e => a5 (.inr (.inl e))) (by rw [n2]; exact fun e => a5 (.inr (.inr (.inl e)))) (by rw [n3]; exact fun e => a5 (.inr (.inr (.inr e)))), n2, n3];exact h
theorem tm {r : List UInt8} {x : UInt8} (h : bQ r = some (x, 4)) : ∃ a b c d q, r = a :: b :: c :: d :: q /\ (c.toNat ≠ 39 /\ c.toNat ≠ 92) /\ (d.toNat ≠ 39 /\ d.toNat ≠ 92) := by
 have hn := dt h
 match r, hn.2 with
 | a :: b :: c :: d :: q, _ =>
  refine ⟨a, b, c, d, q, rfl, ?_⟩;unfold bQ at h;rw [if_neg (by simp)] at h
  by_cases a1 : nb (a :: b :: c :: d :: q) 1 = 92 \/ nb (a :: b :: c :: d :: q) 1 = 39
  ·rw [if_pos a1] at h; injection h with h; injection h with _ h; cases h
  rw [if_neg a1] at h
  by_cases a2 : nb (a :: b :: c :: d :: q) 1 = 110
  ·rw [if_pos a2] at h; injection h with h; injection h with _ h; cases h
  rw [if_neg a2] at h
  by_cases a3 : nb (a :: b :: c :: d :: q) 1 = 116
  ·rw [if_pos a3] at h; injection h with h; injection h with _ h; cases h
  rw [if_neg a3] at h
  by_cases a4 : nb (a :: b :: c :: d :: q) 1 = 114
  ·rw [if_pos a4] at h; injection h with h; injection h with _ h; cases h
  rw [if_neg a4] at h
  by_cases a5 : (a :: b :: c :: d :: q).length < 4 \/ nb (a :: b :: c :: d :: q) 1 ≠ 120 \/ dx (nb (a :: b :: c :: d :: q) 2) < 0 \/ dx (nb (a :: b :: c :: d :: q) 3) < 0
  ·rw [if_pos a5] at h; cases h
  exact ⟨lY (fun e => a5 (.inr (.inr (.inl e)))), lY (fun e => a5 (.inr (.inr (.inr e))))⟩
theorem vn : ∀ (k : Nat) (r : List UInt8), r.length = k -> qd r = match dk r with | none => none | some j => (uq (r.take j)).map fun t => (t, r.drop (j + 1)) := by
 intro k
 induction k using Nat.strongRecOn with
 | _ k ih =>
  intro r hk
  by_cases h0 : r.length = 0
  ·have : r = [] := List.length_eq_zero_iff.1 h0;subst this;rw [ku, if_pos (show ([] : List UInt8).length = 0 from rfl)]; rfl
  obtain ⟨c, s, rfl⟩ : ∃ c s, r = c :: s := by
   cases r with
   | nil => simp at h0
   | cons c s => exact ⟨c, s, rfl⟩
  have n0 : nb (c :: s) 0 = c.toNat := rfl;rw [ku, if_neg h0, n0]
  by_cases h39 : c.toNat = 39
  ·have hc : c = 39 := UInt8.toNat_inj.1 h39;rw [if_pos h39, ez, if_pos hc];dsimp only;rw [List.take_zero, ja, if_pos (show ([] : List UInt8).length = 0 from rfl)];rfl
  have hc39 : c ≠ 39 := fun e => h39 (by rw [e]; rfl)
  rw [if_neg h39]
  by_cases h92 : c.toNat = 92
  ·have hc : c = 92 := UInt8.toNat_inj.1 h92;have hnb : ¬ bad (c :: s) := by
    have := eg.2 ⟨h0, show nb (c :: s) 0 < 128 by rw [n0]; omega⟩;unfold bad;rw [n0]; omega
   rw [if_neg hnb, if_pos h92, ez, if_neg hc39, if_pos hc];cases s with
   | nil => rw [kx (by simp)]
   | cons d q =>
    dsimp only;have huq : ∀ j, uq ((c :: d :: q).take (j + 2)) = match bQ ((c :: d :: q).take (j + 2)) with | none => none | some (x, n) => (uq (((c :: d :: q).take (j + 2)).drop n)).map fun p => x :: p := fun j => by
     rw [ja, if_neg (by simp), if_pos (by rw [dE _ _ _ (by omega), n0]; exact h92)];rfl
    cases he : bQ (c :: d :: q) with
    | none =>
     cases hr : dk q with
     | none => rfl
     | some j =>
      simp only [Option.map_some];rw [huq, kB (by omega) he];rfl
    | some p =>
     obtain ⟨x, n⟩ := p;have hl := dt he;dsimp only;rcases hl.1 with rfl | rfl
     ·rw [show (c :: d :: q).drop 2 = q from rfl, ih q.length (by simp at hk; omega) q rfl];cases hr : dk q with
      | none => rfl
      | some j =>
       simp only [Option.map_some];rw [huq, gL (by omega) he];dsimp only;rw [show ((c :: d :: q).take (j + 2)).drop 2 = q.take j from rfl];rw [show (c :: d :: q).drop (j + 2 + 1) = q.drop (j + 1) from rfl];cases uq (q.take j) <;> rfl
     ·obtain ⟨a, b, e, f, z, heq, h3, h4⟩ := tm he;injection heq with _ heq
      injection heq with _ heq
      subst heq;have hsk : dk (e :: f :: z) = (dk z).map (· + 2) := lX [e, f] z (fun y hy => by
       simp at hy;rcases hy with rfl | rfl
       ·exact ⟨fun k => h3.1 (by rw [k]; rfl), fun k => h3.2 (by rw [k]; rfl)⟩
       ·exact ⟨fun k => h4.1 (by rw [k]; rfl), fun k => h4.2 (by rw [k]; rfl)⟩)
      rw [hsk, show (c :: d :: e :: f :: z).drop 4 = z from rfl, ih z.length (by simp at hk; omega) z rfl];cases hr : dk z with
      | none => rfl
      | some j =>
       simp only [Option.map_some];rw [huq, gL (by omega) he];dsimp only;rw [show ((c :: d :: e :: f :: z).take (j + 2 + 2)).drop 4 = z.take j from rfl];rw [show (c :: d :: e :: f :: z).drop (j + 2 + 2 + 1) = z.drop (j + 1) from rfl];cases uq (z.take j) <;> rfl
  have hc92 : c ≠ 92 := fun e => h92 (by rw [e]; rfl)
  by_cases hb : bad (c :: s)
  ·rw [if_pos hb];have hraw : dk (c :: s) = (dk s).map (· + 1) := by rw [ez, if_neg hc39, if_neg hc92]
   rw [hraw];cases hr : dk s with
   | none => rfl
   | some j =>
    simp only [Option.map_some];have hn0 : nb ((c :: s).take (j + 1)) 0 = c.toNat := by rw [dE _ _ _ (by omega)]; exact n0
    have hbt : bad ((c :: s).take (j + 1)) := by
     rcases hb with hb | hb | hb
     ·refine .inl ?_;apply Classical.byContradiction;intro hne;have h5 := mY ((c :: s).drop (sg ((c :: s).take (j + 1)))) hne;have h6 := (dU (l := (c :: s).take (j + 1))).2;rw [List.length_take] at h6;rw [List.take_take, Nat.min_eq_left (by omega), List.take_append_drop, hb] at h5;exact hne h5.symm
     ·exact .inr (.inl (by rw [hn0]; rw [n0] at hb; exact hb))
     ·exact .inr (.inr (by rw [hn0]; rw [n0] at hb; exact hb))
    rw [ja, if_neg (by simp), if_neg (by rw [hn0]; exact h92), if_pos (.inr hbt)];rfl
  rw [if_neg hb, if_neg h92];have h1 := eU hb;have h2 := dU (l := c :: s);have hby : ∀ y ∈ (c :: s).take (sg (c :: s)), y ≠ 39 /\ y ≠ 92 := fun y hy => by
   obtain ⟨i, hi, rfl⟩ := List.getElem_of_mem hy;rw [List.length_take] at hi;have hin : nb (c :: s) i = ((c :: s).take (sg (c :: s)))[i].toNat := by
    rw [List.getElem_take];unfold nb;rw [List.getElem?_eq_getElem (by omega)];rfl
   have hne : nb (c :: s) i ≠ 39 /\ nb (c :: s) i ≠ 92 := by
    by_cases hi0 : i = 0
    ·subst hi0; rw [n0]; exact ⟨h39, h92⟩
    ·obtain ⟨f2, f3, f4⟩ := gI (l := c :: s);have hcs : sg (c :: s) = 2 \/ sg (c :: s) = 3 \/ sg (c :: s) = 4 := by omega
     rcases hcs with e | e | e
     ·have := f2 e;have hi1 : i = 1 := by omega
      subst hi1; omega
     ·have := f3 e;have hi1 : i = 1 \/ i = 2 := by omega
      rcases hi1 with rfl | rfl <;> omega
     ·have := f4 e;have hi1 : i = 1 \/ i = 2 \/ i = 3 := by omega
      rcases hi1 with rfl | rfl | rfl <;> omega
   rw [hin] at hne;exact ⟨fun e => hne.1 (by rw [e]; rfl), fun e => hne.2 (by rw [e]; rfl)⟩
  have hraw : dk (c :: s) = (dk ((c :: s).drop (sg (c :: s)))).map (· + sg (c :: s)) := by
   have := lX _ ((c :: s).drop (sg (c :: s))) hby
   rw [List.take_append_drop, List.length_take, Nat.min_eq_left h2.2] at this;exact this
  rw [hraw, ih ((c :: s).drop (sg (c :: s))).length (by rw [List.length_drop]; omega) _ rfl];cases hr : dk ((c :: s).drop (sg (c :: s))) with
  | none => rfl
  | some j =>
   simp only [Option.map_some];have hlt := yk hr;rw [List.length_drop] at hlt;have hn0 : nb ((c :: s).take (j + sg (c :: s))) 0 = c.toNat := by rw [dE _ _ _ (by omega)]; exact n0
   have hsp : (c :: s).take (j + sg (c :: s)) = (c :: s).take (sg (c :: s)) ++ ((c :: s).drop (sg (c :: s))).take j := by
    rw [Nat.add_comm, List.take_add]
   have hst : sg ((c :: s).take (j + sg (c :: s))) = sg (c :: s) := by rw [hsp]; exact mY _ h1
   have hbt : ¬ bad ((c :: s).take (j + sg (c :: s))) := by
    unfold bad at hb ⊢;rw [hst, hn0];rw [n0] at hb;exact hb
   rw [ja ((c :: s).take (j + sg (c :: s))), if_neg (by rw [List.length_take]; omega), if_neg (by rw [hn0]; exact h92), if_neg (by rw [hn0]; exact fun h => h.elim h39 hbt), hst];have hd1 : ((c :: s).take (j + sg (c :: s))).drop (sg (c :: s)) = ((c :: s).drop (sg (c :: s))).take j := by
    rw [hsp, List.drop_append_of_le_length (by rw [List.length_take]; omega), List.drop_of_length_le (by rw [List.length_take]; omega), List.nil_append]
   have hd2 : ((c :: s).take (j + sg (c :: s))).take (sg (c :: s)) = (c :: s).take (sg (c :: s)) := by
    rw [List.take_take, Nat.min_eq_left (by omega)]
   rw [hd1, hd2, List.drop_drop, show sg (c :: s) + (j + 1) = j + sg (c :: s) + 1 from by omega];cases uq (((c :: s).drop (sg (c :: s))).take j) <;> rfl
def aG (f : Nat -> Bool) : List UInt8 -> Nat
  | [] => 0
  | c :: r => if f c.toNat then aG f r + 1 else 0
theorem cU (f : Nat -> Bool) : ∀ l, aG f l <= l.length
  | [] => Nat.le_refl _
  | c :: r => by unfold aG; have := cU f r; split <;> simp <;> omega
theorem fT {f : Nat -> Bool} {c : UInt8} (r : List UInt8) (h : f c.toNat = true) : aG f (c :: r) = aG f r + 1 := by rw [aG, if_pos h]
theorem ie {f : Nat -> Bool} {c : UInt8} (r : List UInt8) (h : f c.toNat = false) : aG f (c :: r) = 0 := by rw [aG, if_neg (by simp [h])]
theorem oK (f : Nat -> Bool) : ∀ (l : List UInt8) (n : Nat), n <= l.length -> (∀ k, k < n -> f (nb l k) = true) -> (n < l.length -> f (nb l n) = false) -> aG f l = n
  | [], n, h, _, _ => by simp at h; subst h; rfl
  | c :: r, 0, _, _, h2 => ie r (by have := h2 (by simp); simpa [nb] using this)
  | c :: r, n + 1, h, h1, h2 => by
    rw [fT r (by have := h1 0 (by omega); simpa [nb] using this)];rw [oK f r n (by simpa using h) (fun k hk => by have := h1 (k + 1) (by omega); simpa [nb] using this) (fun hn => by have := h2 (by simpa using hn); simpa [nb] using this)]
def aI (c : Nat) : Bool := decide (c = 32 \/ c = 9 \/ c = 10 \/ c = 13)
structure am where
  k : Nat
  t : List UInt8
  n : Int
inductive Cg where
  | bad (e : Int)
  | tok (t : am) (len : Nat)
def cu (r : List UInt8) : Cg :=
  if aV (nb r 0) then
    (if 64 < aG bf r then .bad 1
     else if ew (r.take (aG bf r)) then .tok ⟨2, bU (r.take (aG bf r)), 0⟩ (aG bf r)
     else .tok ⟨1, r.take (aG bf r), 0⟩ (aG bf r))
  else if cP (nb r 0) then
    (if (cm (r.take (aG cP r))).2 = 0 then .tok ⟨3, [], (cm (r.take (aG cP r))).1⟩ (aG cP r) else .bad (cm (r.take (aG cP r))).2)
  else if nb r 0 = 39 then (match qd (r.drop 1) with | none => .bad 1 | some (x, rest) => .tok ⟨4, x, 0⟩ (r.length - rest.length))
  else if dj r = [] then .bad 1 else .tok ⟨5, dj r, 0⟩ (dj r).length
inductive iC where
  | bad (place : Nat) (e : Int)
  | ok (l : List (am × Nat))
def db : Nat -> List UInt8 -> Nat -> List (am × Nat) -> iC
  | 0, _, p, _ => .bad p 8
  | f + 1, r, p, acc =>
    if r.drop (aG aI r) = [] then
      (if 4096 <= acc.length then .bad (p + aG aI r) 8 else .ok (acc ++ [(⟨6, [], 0⟩, p + aG aI r)]))
    else match cu (r.drop (aG aI r)) with
      | .bad e => .bad (p + aG aI r) e
      | .tok t n => if 4096 <= acc.length then .bad (p + aG aI r) 8
        else db f ((r.drop (aG aI r)).drop n) (p + aG aI r + n) (acc ++ [(t, p + aG aI r)])
def cv (s : List UInt8) : iC := if 16384 < s.length then .bad 0 8 else db (s.length + 1) s 0 []
theorem tq {r : List UInt8} (h : dj r ≠ []) : 1 <= (dj r).length := by
 cases hs : dj r with
 | nil => exact absurd hs h
 | cons c l => simp
theorem oL (r : List UInt8) : (dj r).length <= r.length := by
 unfold dj
 split
 ·simp; omega
 ·split
  ·simp; omega
  ·simp
theorem vo {r : List UInt8} {t : am} {n : Nat} (hr : r ≠ []) (h : cu r = .tok t n) (hq : ∀ x rest, qd (r.drop 1) = some (x, rest) -> rest.length < r.length) : 1 <= n /\ n <= r.length := by
 obtain ⟨c, l, rfl⟩ : ∃ c l, r = c :: l := by cases r with | nil => exact absurd rfl hr | cons c l => exact ⟨c, l, rfl⟩
 have hc : nb (c :: l) 0 = c.toNat := by simp [nb]
 unfold cu at h;rw [hc] at h
 by_cases a : aV c.toNat = true
 ·have hn : bf c.toNat = true := by unfold bf; rw [a]; rfl
  rw [if_pos a] at h;have hp := fT l hn;have hle := cU bf (c :: l)
  split at h
  ·cases h
  ·split at h <;> (cases h; exact ⟨by omega, hle⟩)
 ·rw [if_neg a] at h
  by_cases b : cP c.toNat = true
  ·rw [if_pos b] at h;have hp := fT l b;have hle := cU cP (c :: l)
   split at h
   ·cases h; exact ⟨by omega, hle⟩
   ·cases h
  ·rw [if_neg b] at h
   split at h
   ·split at h
    ·cases h
    ·rename_i x rest hqd
     have := hq x rest hqd;cases h;omega
   ·split at h
    ·cases h
    ·rename_i hne
     cases h;exact ⟨tq hne, oL _⟩
end Go.Proofs.YteljlahcdipilaaGreat
namespace Go.Proofs.YteljlahcdipilaaGreat
open Go.RowKit Go.Shelf
def iP (f : Nat -> Bool) (l : List UInt8) (p j : Nat) : Prop := p <= j /\ j <= l.length /\ ∀ k, p <= k -> k < j -> f (nb l k) = true
theorem gM {f : Nat -> Bool} {l : List UInt8} {p : Nat} (hp : p <= l.length) : iP f l p p := ⟨by omega, hp, fun k h1 h2 => by omega⟩
theorem gN {f : Nat -> Bool} {l : List UInt8} {p j : Nat} (h : iP f l p j) (hj : j < l.length) (hf : f (nb l j) = true) : iP f l p (j + 1) :=
  ⟨by have := h.1; omega, by omega, fun k h1 h2 => by
    by_cases e : k = j
    · subst e; exact hf
    · exact h.2.2 k h1 (by omega)⟩
theorem eP {f : Nat -> Bool} {l : List UInt8} {p j : Nat} (h : iP f l p j) (he : j < l.length -> f (nb l j) = false) : aG f (l.drop p) = j - p := by
 have h1 := h.1;have h2 := h.2.1;refine oK f _ _ (by rw [List.length_drop]; omega) (fun k hk => ?_) (fun hn => ?_)
 ·rw [cT]; exact h.2.2 _ (by omega) (by omega)
 ·rw [List.length_drop] at hn;rw [cT, show p + (j - p) = j from by omega]; exact he (by omega)
theorem gf (s : ByteArray) (p j : Nat) : (s.extract p j).data.toList = (s.data.toList.drop p).take (j - p) := by
 rw [Lib.extract_data]
theorem lI {r : List UInt8} (h : aV (nb r 0) = true) (h2 : 64 < aG bf r) : cu r = .bad 1 := by
 unfold cu; rw [if_pos h, if_pos h2]
theorem jw {r : List UInt8} (h : aV (nb r 0) = true) (h2 : ¬ 64 < aG bf r) (h3 : ew (r.take (aG bf r)) = true) : cu r = .tok ⟨2, bU (r.take (aG bf r)), 0⟩ (aG bf r) := by
 unfold cu; rw [if_pos h, if_neg h2, if_pos h3]
theorem lZ {r : List UInt8} (h : aV (nb r 0) = true) (h2 : ¬ 64 < aG bf r) (h3 : ew (r.take (aG bf r)) = false) : cu r = .tok ⟨1, r.take (aG bf r), 0⟩ (aG bf r) := by
 unfold cu; rw [if_pos h, if_neg h2, if_neg (by rw [h3]; decide)]
theorem oM {r : List UInt8} (h : aV (nb r 0) = false) (h2 : cP (nb r 0) = true) (h3 : (cm (r.take (aG cP r))).2 = 0) : cu r = .tok ⟨3, [], (cm (r.take (aG cP r))).1⟩ (aG cP r) := by
 unfold cu; rw [h, if_neg (by decide), h2, if_pos rfl, if_pos h3]
theorem oN {r : List UInt8} (h : aV (nb r 0) = false) (h2 : cP (nb r 0) = true) (h3 : ¬ (cm (r.take (aG cP r))).2 = 0) : cu r = .bad (cm (r.take (aG cP r))).2 := by
 unfold cu; rw [h, if_neg (by decide), h2, if_pos rfl, if_neg h3]
theorem vt {r : List UInt8} (h : nb r 0 = 39) : cu r = match qd (r.drop 1) with | none => .bad 1 | some (x, rest) => .tok ⟨4, x, 0⟩ (r.length - rest.length) := by
 unfold cu; rw [h, if_neg (by decide), if_neg (by decide), if_pos rfl]
 all_goals (generalize qd (r.drop 1) = o; cases o <;> rfl)
theorem l6 {r : List UInt8} (h : aV (nb r 0) = false) (h2 : cP (nb r 0) = false) (h3 : ¬ nb r 0 = 39) : cu r = if dj r = [] then .bad 1 else .tok ⟨5, dj r, 0⟩ (dj r).length := by
 unfold cu; rw [h, if_neg (by decide), h2, if_neg (by decide), if_neg h3]
end Go.Proofs.YteljlahcdipilaaGreat

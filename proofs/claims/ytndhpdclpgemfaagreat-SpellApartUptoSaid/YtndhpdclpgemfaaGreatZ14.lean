/- Parts X3, X4, X5, P5, P8, P9, P11, P12 of this seat (pruned, scripts that are alike kept once as default arguments: q1, q2, ..). Conditions: each says its own. -/
import Derived.Test.YtndhpdclpgemfaaGreatZ13
namespace Go.Proofs.YtndhpdclpgemfaaGreat
open Go.RowKit
set_option linter.unusedSimpArgs false
set_option linter.unusedVariables false
set_option maxRecDepth 100000
def levelB (s : ByteArray) : Int :=
  if (s.toList == [79, 82]) = true then 1 else
  if (s.toList == [88, 79, 82]) = true then 2 else
  if (s.toList == [65, 78, 68]) = true then 3 else
  if (s.toList == [61]) = true then 5 else
  if (s.toList == [60, 62]) = true then 5 else
  if (s.toList == [60]) = true then 5 else
  if (s.toList == [60, 61]) = true then 5 else
  if (s.toList == [62]) = true then 5 else
  if (s.toList == [62, 61]) = true then 5 else
  if (s.toList == [73, 78]) = true then 5 else
  if (s.toList == [43]) = true then 6 else
  if (s.toList == [45]) = true then 6 else
  if (s.toList == [42]) = true then 7 else
  if (s.toList == [47]) = true then 7 else
  if (s.toList == [37]) = true then 7 else
  0
def aggB (s : ByteArray) : Bool := (s.toList == [99, 111, 117, 110, 116]) || (s.toList == [115, 117, 109]) || (s.toList == [109, 105, 110]) || (s.toList == [109, 97, 120]) || (s.toList == [99, 111, 108, 108, 101, 99, 116])
def keyB (s : ByteArray) : Bool := decide (1 ≤ s.size) && decide (s.size ≤ 64)
def closeB (op : Int) (nm : ByteArray) : Int :=
  if op = 10 then levelB nm else if op = 9 then 4 else if op = 11 then 5 else if op = 12 then 5 else if op = 8 then 8 else if op = 4 then 9 else if op = 7 then 9 else if op = 15 then 9 else 10
def zeroC : List Value := [.int .i64 0, .bool false, .int .i64 0, .string ⟨#[]⟩, .slice none 0 0, .slice none 0 0]
def emptyV : Vt := .mk 0 false 0 ⟨#[]⟩ [] []
theorem empty_isV (B : Nat) (w : World) : IsV B w zeroC emptyV := by
 unfold emptyV IsV
 exact ⟨none, 0, none, 0, rfl, by unfold in64; omega, by unfold in64; omega, by simp, by simp, fun _ => rfl, fun _ => rfl, .inl rfl, by simp [IsVs]⟩
def noneB : Ex → Bool
  | .mk op nm v ns az => (op == 0) && ((nm.toList == []) && (sameV v emptyV && (decide (ns.length = 0) && decide (az.length = 0))))
def ML (w : World) : Prop := 0 < w.heap.size ∧ ∃ m, w.cell? mlA = some (.int .i64 m)
theorem ML.below {w w' : World} (h : ML w) (hb : Below w.heap.size w w') : ML w' := by
 obtain ⟨h1, m, h2⟩ := h
 exact ⟨Nat.lt_of_lt_of_le h1 hb.size, m, by rw [hb.cell (by show 0 < w.heap.size; exact h1)]; exact h2⟩
def plainB (s : ByteArray) : Bool := nameB s.data.toList && !wordB s.data.toList
def keyT (s : ByteArray) : ByteArray := if plainB s = true then s else strOf (39 :: (quoteL s.data.toList ++ [39]))
theorem wordR_eq (l : List UInt8) : ∃ t, wordR l = .tuple #[.string t, .bool (wordB l)] := by
 unfold wordR
 cases h : wordB l with
 | true => exact ⟨_, rfl⟩
 | false => exact ⟨_, rfl⟩
set_option maxHeartbeats 4000000 in
theorem splain_any (s : ByteArray) (w : World) (hs : s.size ≤ 1099511627776) (hm : ML w) : Calls Tryz.prog 37 #[.string s] w fun e w' => e = .returned (.bool (plainB s)) ∧ Below w.heap.size w w' := by
 obtain ⟨t, ht⟩ := wordR_eq s.data.toList
 obtain ⟨b, hb⟩ := nam (wordB s.data.toList)
 obtain ⟨c, hc⟩ := nam (nameB s.data.toList)
 obtain ⟨h1, m, h2⟩ := hm
 have HW := Lib.hid (word_any s m w hs h2 h1)
 rw [ht, hb] at HW
 have HN : Hid (∀ u, Calls Tryz.prog 91 #[.string s] u fun e w' => e = .returned (.bool c) ∧ Below u.heap.size u w') := Lib.hid (fun u => by rw [← hc]; exact sname_any s u hs)
 have hq : plainB s = (c && !b) := by unfold plainB; rw [hb, hc]
 rw [hq]
 clear hq ht hb hc h1 h2
 cases c <;> cases b <;>
 · go_enter Tryz.func37, Tryz.ntmps37
   go_wp2_with fail
   refine HW.out.mono ?_
   rintro e w1 ⟨rfl, hb1⟩
   have HB1 := Lib.hid hb1
   clear hb1
   go_wp2_with fail
   refine (HN.out _).mono ?_
   rintro e w2 ⟨rfl, hb2⟩
   have HB2 := Lib.hid (HB1.out.trans (hb2.mono HB1.out.size))
   clear hb2
   go_wp2_with fail
   go_ret
   exact ⟨rfl, HB2.out⟩
set_option maxHeartbeats 4000000 in
theorem skeyT_any (s : ByteArray) (w : World) (hs : s.size ≤ 1099511627776) (hm : ML w) : Calls Tryz.prog 16 #[.string s] w fun e w' => e = .returned (.string (keyT s)) ∧ Below w.heap.size w w' := by
 obtain ⟨b, hb⟩ := nam (plainB s)
 have HP := Lib.hid (splain_any s w hs hm)
 rw [hb] at HP
 have HK := Lib.hid (fun u => quote_any s u hs)
 obtain ⟨q, hq⟩ : ∃ q, strOf (39 :: (quoteL s.data.toList ++ [39])) = q := ⟨_, rfl⟩
 rw [hq] at HK
 cases b with
 | true =>
  have hk : keyT s = s := by unfold keyT; rw [if_pos hb]
  rw [hk]
  clear hk hb hq
  go_enter Tryz.func16, Tryz.ntmps16
  go_wp2_with fail
  refine HP.out.mono ?_
  rintro e w1 ⟨rfl, hb1⟩
  have HB1 := Lib.hid hb1
  clear hb1
  go_wp2_with fail
  go_ret
  exact ⟨rfl, HB1.out⟩
 | false =>
  have hk : keyT s = q := by unfold keyT; rw [if_neg (by rw [hb]; simp), hq]
  rw [hk]
  clear hk hb hq
  go_enter Tryz.func16, Tryz.ntmps16
  go_wp2_with fail
  refine HP.out.mono ?_
  rintro e w1 ⟨rfl, hb1⟩
  have HB1 := Lib.hid hb1
  clear hb1
  go_wp2_with fail
  refine (HK.out _).mono ?_
  rintro e w2 ⟨rfl, hb2⟩
  have HB2 := Lib.hid (HB1.out.trans (hb2.mono HB1.out.size))
  clear hb2
  go_wp2_with fail
  go_ret
  exact ⟨rfl, HB2.out⟩
end Go.Proofs.YtndhpdclpgemfaaGreat
namespace Go.Proofs.YtndhpdclpgemfaaGreat
set_option maxRecDepth 100000
open Go.RowKit
set_option linter.unusedSimpArgs false
set_option linter.unusedVariables false
def digB (d : Nat) : UInt8 := UInt8.ofNat (48 + d)
def decF : Nat → Nat → List UInt8 → List UInt8
  | 0, _, acc => acc
  | f + 1, m, acc => if m < 10 then digB m :: acc else decF f (m / 10) (digB (m % 10) :: acc)
def decN (m : Nat) : List UInt8 := decF 19 m []
def textOf (n : Int) : List UInt8 := (if n < 0 then [45] else []) ++ decN n.natAbs
def bytesV (l : List UInt8) : List Value := l.map fun b => .int .u8 b.toNat
def digitsV : List Value := [.int .u8 48, .int .u8 49, .int .u8 50, .int .u8 51, .int .u8 52, .int .u8 53, .int .u8 54, .int .u8 55, .int .u8 56, .int .u8 57]
theorem digitsV_get {d : Nat} (h : d < 10) : digitsV[d]? = some (.int .u8 (digB d).toNat) := by
 have : d = 0 ∨ d = 1 ∨ d = 2 ∨ d = 3 ∨ d = 4 ∨ d = 5 ∨ d = 6 ∨ d = 7 ∨ d = 8 ∨ d = 9 := by omega
 rcases this with rfl | rfl | rfl | rfl | rfl | rfl | rfl | rfl | rfl | rfl <;> rfl
theorem digB_nat {d : Nat} (h : d < 10) : ((digB d).toNat : Int) = 48 + d := by
 unfold digB; simp; omega
def bufV (f : Nat) (L : List UInt8) : List Value := List.replicate f (.int .u8 0) ++ bytesV L
theorem bufV_get (f : Nat) (L : List UInt8) : (bufV (f + 1) L)[f]? = some (.int .u8 0) := by
 unfold bufV; rw [List.getElem?_append_left (by simp)]; simp
theorem bufV_set (f : Nat) (L : List UInt8) (b : UInt8) : (bufV (f + 1) L).set f (.int .u8 b.toNat) = bufV f (b :: L) := by
 unfold bufV
 rw [List.set_append_left _ _ (by simp), List.replicate_succ', List.set_append_right _ _ (by simp)]
 simp [bytesV]
theorem slice20 (b f : Nat) (hf : f ≤ 19) (w : World) : (Instr.sliceAt 210 (.pointer (some ⟨b, 0, none⟩)) (some (.int .i64 (f : Int))) none none).run Tryz.prog w = .ok (.slice (some ⟨b, f, none⟩) (20 - f) (20 - f)) w := by
 have hl : Tryz.prog.arrayLen 210 = 20 := by kernel_rfl
 have he : Tryz.prog.elem 210 = 5 := by kernel_rfl
 have hu : Tryz.prog.underlying 210 = some (.array (Tryz.prog.arrayLen 210) (Tryz.prog.elem 210)) := by rw [hl, he]; exact Tryz.underlying210
 have hz : ∀ w, (sizeOf 5).run Tryz.prog w = .ok 1 w := fun _ => by kernel_rfl
 rw [run_sliceAt_array_l w 210 ⟨b, 0, none⟩ hu .i64 f (by omega) (by rw [hl]; omega), he, hz, hl]
 simp only [Result.andThen, slicedAt, Int.toNat_natCast]
 rw [if_neg (by omega)]
 simp [addr_add]
theorem conv20 (b f : Nat) (L : List UInt8) (hL : L.length = 20 - f) (w : World) (h : Block w b (bufV f L) 210) : (convert 72 9 (.slice (some ⟨b, f, none⟩) (20 - f) (20 - f))).run Tryz.prog w = .ok (.string ⟨L.toArray⟩) w := by
 have hc := run_convert_bytes_back w 72 9 5 ⟨b, f, none⟩ (20 - f) L Tryz.underlying72 Tryz.underlying5 Tryz.underlying9 (fun j hj => by
  rw [addr_add]
  refine h.cell ?_
  unfold bufV bytesV
  rw [List.getElem?_append_right (by simp)]
  simp [List.getElem?_eq_getElem hj])
 rw [hL] at hc
 exact hc
set_option maxHeartbeats 400000 in
theorem text_any (n : Int) (w : World) (hn : In64 n) : Calls Tryz.prog 183 #[.int .i64 n] w fun e w' => e = .returned (.string ⟨(textOf n).toArray⟩) ∧ Below w.heap.size w w' := by
 have HN : Hid (n.natAbs < 10 ^ 19) := Lib.hid (by have := natAbs_le hn; omega)
 have HS := Lib.hid (fun w => size_any n w hn)
 clear hn
 go_enter Tryz.func183, Tryz.ntmps183
 go_wp2_with fail
 refine (HS.out _).mono ?_; rintro e w' ⟨rfl, rfl⟩
 go_wp2_with fail
 go_loopw [5, 6] (fun i m wr => ∃ (f mm : Nat) (L : List UInt8), i = .int .i64 ((f : Int) + 1) ∧ m = .int .u64 mm ∧ 1 ≤ f ∧ f ≤ 19 ∧ Hid (mm < 10 ^ f ∧ decF f mm L = decN n.natAbs ∧ L.length = 19 - f) ∧
     Block wr w.heap.size digitsV 209 ∧ Block wr (w.heap.size + 1) (bufV (f + 1) L) 210 ∧ Below w.heap.size w wr) (fun i _ _ => (intOf i).toNat)
 case atStart =>
  refine ⟨19, _, [], rfl, rfl, by omega, by omega, Lib.hid ⟨HN.out, rfl, rfl⟩, ?_, ?_, ((Below.refl _ _).alloc (Nat.le_refl _) _).alloc (by simp) _⟩
  ·exact (Block.new w digitsV 209).alloc _
  ·have h := Block.new (w.alloc (.cells digitsV.toArray 209)) (bufV 20 []) 210
   simp only [World.size_alloc] at h
   exact h
 case round =>
  obtain ⟨f, mm, L, rfl, rfl, hf1, hf2, hh, hb0, hb1, hbel⟩ := hrel
  have c0 := hb0.cell (digitsV_get (d := mm % 10) (by omega))
  have c1 := hb1.cell (bufV_get f L)
  have f1 := hb1.free f
  have hsz := hb1.lt
  have hb2 := hb1.set f (.int .u8 (digB (mm % 10)).toNat)
  rw [bufV_set] at hb2
  have hbel2 : Below w.heap.size w (wr.setCell ⟨w.heap.size + 1, f, none⟩ (.int .u8 (digB (mm % 10)).toNat)) := hbel.setCell (by simp) _
  by_cases hlt : mm < 10
  ·have hdl : decN n.natAbs = digB (mm % 10) :: L := by
    rw [← hh.out.2.1, show f = (f - 1) + 1 from by omega, decF, if_pos hlt, Nat.mod_eq_of_lt hlt]
   have hll : (digB (mm % 10) :: L).length = 20 - f := by simp only [List.length_cons]; have := hh.out.2.2; omega
   by_cases hneg : n < 0
   ·obtain ⟨g, rfl⟩ : ∃ g, f = g + 1 := ⟨f - 1, by omega⟩
    have hb3 := hb2.set g (.int .u8 45)
    have c3 := hb2.cell (bufV_get g (digB (mm % 10) :: L))
    have f3 := hb2.free g
    rw [show (bufV (g + 1) (digB (mm % 10) :: L)).set g (.int .u8 45) = bufV g (45 :: digB (mm % 10) :: L) from bufV_set g _ 45] at hb3
    have hs := slice20 (w.heap.size + 1) g (by omega)
    have hcv := conv20 (w.heap.size + 1) g _ (by simp only [List.length_cons] at hll ⊢; omega) _ hb3
    have hbel3 := Lib.hid (Below.setCell hbel2 (p := ⟨w.heap.size + 1, g, none⟩) (by simp) (.int .u8 45))
    have HD := Lib.hid hdl
    clear hb0 hb1 hb2 hb3 hdl hll hbel2
    go_wp2_with fail
    go_ret
    refine ⟨?_, hbel3.out⟩
    unfold textOf
    rw [if_pos hneg, HD.out]; rfl
   ·have hs := slice20 (w.heap.size + 1) f hf2
    have hcv := conv20 (w.heap.size + 1) f _ hll _ hb2
    have HBel := Lib.hid hbel2
    have HD := Lib.hid hdl
    clear hb0 hb1 hb2 hdl hll hbel2
    go_wp2_with fail
    go_ret
    refine ⟨?_, HBel.out⟩
    unfold textOf
    rw [if_neg (by omega), HD.out]; rfl
  ·have hw : IntKind.u64.wrap ((mm : Int) / 10) = ((mm / 10 : Nat) : Int) := by
    have h1 := hh.out.1
    have h2 : 10 ^ f ≤ 10 ^ 19 := Nat.pow_le_pow_right (by omega) hf2
    rw [IntKind.wrap_u64]; omega
   obtain ⟨HB0, HB2, HBel⟩ := hd3 hb0 hb2 hbel2
   clear hb0 hb1 hb2 hbel2
   go_wp2_with fail
   go_roundw
   case rel =>
    have hh := hh.out
    have hf3 : 2 ≤ f := by
     rcases Nat.lt_or_ge 1 f with h | h
     ·exact h
     ·have : f = 1 := by omega
      rw [this] at hh; omega
    refine ⟨f - 1, mm / 10, digB (mm % 10) :: L, ?_, rfl, by omega, by omega, Lib.hid ⟨?_, ?_, ?_⟩, ?_, ?_, HBel.out⟩
    ·simp; omega
    ·have h1 : 10 ^ f = 10 ^ (f - 1) * 10 := by rw [← Nat.pow_succ]; congr 1; omega
     omega
    ·rw [← hh.2.1]
     conv => rhs; rw [show f = (f - 1) + 1 from by omega, decF, if_neg hlt]
    ·simp only [List.length_cons]; omega
    ·exact HB0.out.set_other (by simp) _
    ·rw [show f - 1 + 1 = f from by omega]; exact HB2.out
   case measure => first | (simp [intOf]; done) | (simp [intOf]; omega)
def isDig (c : UInt8) : Bool := 48 ≤ c.toNat && c.toNat ≤ 57
def valOf (l : List UInt8) : Nat := l.foldl (fun v c => v * 10 + (c.toNat - 48)) 0
def parseS (below : Bool) (d : List UInt8) : Int × Int :=
  if d = [] ∨ (d.head? = some 48 ∧ (1 < d.length ∨ below = true)) ∨ d.all isDig = false then (0, 1)
  else (chkV (if below then -(valOf d : Int) else valOf d), chkE (if below then -(valOf d : Int) else valOf d))
def parseOf (l : List UInt8) : Int × Int := if l.head? = some 45 then parseS true l.tail else parseS false l
theorem ba_empty {s : ByteArray} (h : s.size = 0) : s.toList.isEmpty = true ∧ s.toList = [] := by
 rw [ByteArray.toList_eq]
 have : s.data.toList = [] := by
  have h' : s.data.toList.length = 0 := by simpa using h
  exact List.length_eq_zero_iff.1 h'
 rw [this]; exact ⟨rfl, rfl⟩
theorem ba_ne {s : ByteArray} (h : 0 < s.size) : s.toList.isEmpty = false ∧ ¬ s.toList = [] := by
 rw [ByteArray.toList_eq]
 have : s.data.toList ≠ [] := fun h0 => by
  have h' : s.data.toList.length = 0 := by rw [h0]; rfl
  have h2 : s.data.toList.length = s.size := by simp
  omega
 exact ⟨by simpa using this, this⟩
theorem get_list (s : ByteArray) (k : Nat) (h : k < s.size) : s.data.toList[k]? = some s[k] := by
 rw [List.getElem?_eq_getElem (by simpa using h)]; rfl
theorem head_list (s : ByteArray) (h : 0 < s.size) : s.data.toList.head? = some s[0] := by
 rw [← get_list s 0 h]; exact List.head?_eq_getElem?
theorem len_list (s : ByteArray) : s.data.toList.length = s.size := by simp
theorem ne_list (s : ByteArray) (h : 0 < s.size) : s.data.toList ≠ [] := fun h0 => by
  have h2 := len_list s
  rw [h0] at h2; simp at h2; omega
def Num (l : List UInt8) (k : Nat) (m : Int) (over : Bool) : Prop :=
  (l.take k).all isDig = true ∧ 0 ≤ m ∧ m ≤ 18446744073709551615 ∧ (over = false → m = valOf (l.take k)) ∧ (over = true → 9223372036854775808 < valOf (l.take k))
theorem valOf_snoc (l : List UInt8) (c : UInt8) : valOf (l ++ [c]) = valOf l * 10 + (c.toNat - 48) := by simp [valOf]
theorem Num.zero (l : List UInt8) : Num l 0 0 false := by simp [Num, valOf]
theorem isDig_iff (c : UInt8) {n : Int} (h : (c.toNat : Int) = n) : isDig c = true ↔ 48 ≤ n ∧ n ≤ 57 := by
 unfold isDig; simp only [Bool.and_eq_true, decide_eq_true_eq]; omega
theorem Num.step {l : List UInt8} {k : Nat} {m n m' : Int} {over over' : Bool} {c : UInt8} (h : Num l k m over) (hc : l[k]? = some c) (hn : (c.toNat : Int) = n) (h1 : 48 ≤ n) (h2 : n ≤ 57)
    (ho : over' = (over || decide (1152921504606846976 < m))) (hm : m' = IntKind.u64.wrap (IntKind.u64.wrap (m * 10) + (n - 48))) : Num l (k + 1) m' over' := by
 obtain ⟨a1, a2, a3, a4, a5⟩ := h
 have hd := (isDig_iff c hn).2 ⟨h1, h2⟩
 have hv : valOf (l.take (k + 1)) = valOf (l.take k) * 10 + (c.toNat - 48) := by rw [take_succ_some hc, valOf_snoc]
 simp only [IntKind.wrap_u64] at hm
 refine ⟨by rw [take_succ_some hc, List.all_append, a1]; simp [hd], by omega, by omega, fun h => ?_, fun h => ?_⟩
 ·rw [ho, Bool.or_eq_false_iff, decide_eq_false_iff_not] at h
  have := a4 h.1
  rw [hv]; omega
 ·rw [ho, Bool.or_eq_true, decide_eq_true_eq] at h
  rw [hv]
  rcases h with h | h
  ·have := a5 h; omega
  ·cases over with
   | true => have := a5 rfl; omega
   | false => have := a4 rfl; omega
theorem parseS_bad {b : Bool} {l : List UInt8} {k : Nat} {c : UInt8} {n : Int} (hc : l[k]? = some c) (hn : (c.toNat : Int) = n) (h : n < 48 ∨ 57 < n) : parseS b l = (0, 1) := by
 unfold parseS
 rw [if_pos]
 refine .inr (.inr ?_)
 cases ha : l.all isDig with
 | false => rfl
 | true =>
  have := List.all_eq_true.1 ha c (List.mem_of_getElem? hc)
  rw [isDig_iff c hn] at this; omega
theorem parseS_good {b : Bool} {l : List UInt8} {m : Int} {over : Bool} (h : Num l l.length m over) (h0 : l ≠ []) (hz : ¬ (l.head? = some 48 ∧ (1 < l.length ∨ b = true))) :
    parseS b l = if over then (0, 4) else (chkV (if b then -m else m), chkE (if b then -m else m)) := by
 obtain ⟨a1, a2, a3, a4, a5⟩ := h
 rw [List.take_length] at a1 a4 a5
 unfold parseS
 rw [if_neg (by rintro (h | h | h); exact h0 h; exact hz h; rw [a1] at h; cases h)]
 cases over with
 | false => rw [← a4 rfl]; rfl
 | true =>
  have := a5 rfl
  have hn : ¬ In64 (if b then -(valOf l : Int) else valOf l) := by
   unfold In64; cases b
   ·simp only [Bool.false_eq_true, if_false]; omega
   ·simp only [if_true]; omega
  rw [(chk_out hn).1, (chk_out hn).2]; rfl
theorem pair_ret {a b : Int} {p : Int × Int} (h : p = (a, b)) : Ending.returned (.tuple #[.int .i64 a, .int .i64 b]) = .returned (.tuple #[.int .i64 p.1, .int .i64 p.2]) := by rw [h]
theorem Se387014 {P : Prop} (h : P := by
 obtain ⟨hn1, hn2⟩ := ba_ne h0
 have HL := Lib.hid (len_list d)
 go_enter Tryz.func99, Tryz.ntmps99
 go_wp2_with fail
 go_loop [2, 3, 5, 6, 7] (fun _ _ m o i => ∃ (k : Nat) (mm : Int) (over : Bool), k ≤ d.size ∧ i = .int .i64 k ∧ m = .int .u64 mm ∧ o = .bool over ∧ Hid (Num d.data.toList k mm over)) (fun _ _ _ _ i => d.size - (intOf i).toNat)
 case atStart => exact ⟨0, 0, false, Nat.zero_le _, rfl, rfl, rfl, Lib.hid (Num.zero _)⟩
 case round =>
  obtain ⟨k, mm, over, hk, rfl, rfl, rfl, hh⟩ := hrel
  by_cases hlt : k < d.size
  ·obtain ⟨c, hc⟩ := nam d[k]
   have HG2 : Hid (d.data.toList[k]? = some c) := by rw [get_list d k hlt, hc]; exact Lib.hid rfl
   obtain ⟨n, hcn, hn0, hn3⟩ : ∃ n : Int, (c.toNat : Int) = n ∧ 0 ≤ n ∧ n ≤ 255 := ⟨_, rfl, by omega, by have := c.toNat_lt; omega⟩
   have HCN := Lib.hid hcn
   by_cases h48 : n < 48
   ·go_wp2_with fail
    go_ret2
    exact ⟨pair_ret (parseS_bad HG2.out HCN.out (.inl h48)), rfl⟩
   ·by_cases h57 : 57 < n
    ·go_wp2_with fail
     go_ret2
     exact ⟨pair_ret (parseS_bad HG2.out HCN.out (.inr h57)), rfl⟩
    ·cases over
     ·by_cases hbig : 1152921504606846976 < mm
      all_goals
       go_wp2_with fail
       go_round
       case rel =>
        refine ⟨k + 1, _, _, by omega, by go_num, rfl, rfl, Lib.hid (Num.step hh.out HG2.out HCN.out (by omega) (by omega) ?_ ?_)⟩
        ·simp [hbig]
        ·simp only [IntKind.wrap_u64]; try omega
       case measure => simp [intOf]; omega
     ·go_wp2_with fail
      go_round
      case rel =>
       refine ⟨k + 1, _, _, by omega, by go_num, rfl, rfl, Lib.hid (Num.step hh.out HG2.out HCN.out (by omega) (by omega) ?_ ?_)⟩
       ·simp
       ·simp only [IntKind.wrap_u64]; try omega
      case measure => simp [intOf]; omega
  ·obtain rfl : k = d.size := by omega
   have hN := hh.out
   rw [← HL.out] at hN
   first
   | (guard_hyp z387014a; have HP := Lib.hid (parseS_good (b := false) hN (ne_list d h0) (by simpa using HG.out)))
   | (have HP := Lib.hid (parseS_good (b := true) hN (ne_list d h0) (by simpa using HG.out)))
   cases over
   ·have b1 := hN.2.1
    have HB := Lib.hid hN.2.2.1
    clear hN
    go_wp2_with fail
    refine (signed_any mm _ _ b1 HB.out).mono ?_; rintro e w' ⟨rfl, rfl⟩
    go_wp2_with fail
    go_ret2
    exact ⟨pair_ret HP.out, rfl⟩
   ·clear hN
    go_wp2_with fail
    go_ret2
    exact ⟨pair_ret HP.out, rfl⟩) : P := h
set_option maxHeartbeats 1000000 in
theorem parse_loop_b (d s : ByteArray) (w : World) (hs : 0 < s.size) (hm : d.size ≤ 9223372036854775807) (hb : ((s[0].toNat : Int) == 45) = true) (hd : s.extract 1 s.size = d) (h0 : 0 < d.size) (HG : Hid (¬ (d.data.toList.head? = some 48 ∧ (1 < d.data.toList.length ∨ true = true)))) (hz : ((d[0].toNat : Int) == 48) = false) :
    Calls Tryz.prog 99 #[.string s] w fun e w' => e = .returned (.tuple #[.int .i64 (parseS true d.data.toList).1, .int .i64 (parseS true d.data.toList).2]) ∧ w = w' := Se387014
set_option maxHeartbeats 1000000 in
theorem parse_loop_n (d : ByteArray) (w : World) (hm : d.size ≤ 9223372036854775807)  (h0 : 0 < d.size) (HG : Hid (¬ (d.data.toList.head? = some 48 ∧ (1 < d.data.toList.length ∨ false = true)))) (hb : ((d[0].toNat : Int) == 45) = false) (hz : ((d[0].toNat : Int) == 48) = false) :
    Calls Tryz.prog 99 #[.string d] w fun e w' => e = .returned (.tuple #[.int .i64 (parseS false d.data.toList).1, .int .i64 (parseS false d.data.toList).2]) ∧ w = w' := by
 have z387014a := trivial
 exact Se387014
set_option maxHeartbeats 1000000 in
theorem parse_loop_z (d : ByteArray) (w : World) (hm : d.size ≤ 9223372036854775807)  (h0 : 0 < d.size) (HG : Hid (¬ (d.data.toList.head? = some 48 ∧ (1 < d.data.toList.length ∨ false = true)))) (hb : ((d[0].toNat : Int) == 45) = false) (hz : ((d[0].toNat : Int) == 48) = true) (hone : ¬ (1 : Int) < d.size) :
    Calls Tryz.prog 99 #[.string d] w fun e w' => e = .returned (.tuple #[.int .i64 (parseS false d.data.toList).1, .int .i64 (parseS false d.data.toList).2]) ∧ w = w' := by
 have z387014a := trivial
 exact Se387014
theorem parseS_lead {b : Bool} {l : List UInt8} (h : l = [] ∨ (l.head? = some 48 ∧ (1 < l.length ∨ b = true))) : parseS b l = (0, 1) := by
 unfold parseS
 rw [if_pos]
 rcases h with h | h
 ·exact .inl h
 ·exact .inr (.inl h)
theorem u8_beq (c d : UInt8) : ((c.toNat : Int) == (d.toNat : Int)) = decide (c = d) := by
 by_cases h : c = d
 ·subst h; simp
 ·rw [decide_eq_false h, beq_eq_false_iff_ne]
  intro h2
  exact h (UInt8.toNat_inj.1 (by omega))
set_option maxHeartbeats 1000000 in
theorem parse_any (s : ByteArray) (w : World) (hs : s.size ≤ 9223372036854775807) : Calls Tryz.prog 99 #[.string s] w fun e w' => e = .returned (.tuple #[.int .i64 (parseOf s.data.toList).1, .int .i64 (parseOf s.data.toList).2]) ∧ w = w' := by
 by_cases h0 : s.size = 0
 ·have hr : Hid (parseOf s.data.toList = (0, 1)) := Lib.hid (by
   have h' : s.data.toList.length = 0 := by simpa using h0
   rw [List.length_eq_zero_iff.1 h']; rfl)
  have hz : ¬ (0 : Int) < s.size := by omega
  obtain ⟨e1, e2⟩ := ba_empty h0
  clear h0
  go_enter Tryz.func99, Tryz.ntmps99
  go_wp2_with fail
  go_ret2
  exact ⟨pair_ret hr.out, rfl⟩
 ·have h1 : 0 < s.size := by omega
  have hhd := head_list s h1
  have hb : ((s[0].toNat : Int) == 45) = decide (s[0] = 45) := u8_beq s[0] 45
  by_cases hc : s[0] = 45
  ·rw [decide_eq_true hc] at hb
   obtain ⟨d, hd⟩ := nam (s.extract 1 s.size)
   have hl : s.data.toList.tail = d.data.toList := by
    rw [← hd, Lib.extract_to_end, List.drop_one]
   have hdz : d.size = s.size - 1 := by rw [← len_list, ← len_list, ← hl, List.length_tail]
   have hp : parseOf s.data.toList = parseS true d.data.toList := by
    unfold parseOf; rw [hhd, hc, if_pos rfl, hl]
   rw [hp]
   clear hl hhd hp hc h0
   by_cases hz0 : d.size = 0
   ·obtain ⟨e1, e2⟩ := ba_empty hz0
    have hr : Hid (parseS true d.data.toList = (0, 1)) := Lib.hid (parseS_lead (.inl (by rw [← ByteArray.toList_eq]; exact e2)))
    clear hz0 hdz
    go_enter Tryz.func99, Tryz.ntmps99
    go_wp2_with fail
    go_ret2
    exact ⟨pair_ret hr.out, rfl⟩
   ·have h2 : 0 < d.size := by omega
    have hz : ((d[0].toNat : Int) == 48) = decide (d[0] = 48) := u8_beq d[0] 48
    have hhd := head_list d h2
    have hm : d.size ≤ 9223372036854775807 := by omega
    by_cases hc : d[0] = 48
    ·rw [decide_eq_true hc] at hz
     have hr : Hid (parseS true d.data.toList = (0, 1)) := Lib.hid (parseS_lead (.inr ⟨by rw [hhd, hc], .inr rfl⟩))
     obtain ⟨e1, e2⟩ := ba_ne h2
     clear hz0 hdz hhd hc
     by_cases hlen : (1 : Int) < d.size
     all_goals
      go_enter Tryz.func99, Tryz.ntmps99
      go_wp2_with fail
      go_ret2
      exact ⟨pair_ret hr.out, rfl⟩
    ·rw [decide_eq_false hc] at hz
     exact parse_loop_b d s w h1 hm hb hd h2 (Lib.hid (by rw [hhd]; simp [hc])) hz
  ·rw [decide_eq_false hc] at hb
   have hp : parseOf s.data.toList = parseS false s.data.toList := by
    unfold parseOf; rw [hhd, if_neg (by simpa using hc)]
   rw [hp]
   have hz : ((s[0].toNat : Int) == 48) = decide (s[0] = 48) := u8_beq s[0] 48
   by_cases hc2 : s[0] = 48
   ·rw [decide_eq_true hc2] at hz
    by_cases hlen : (1 : Int) < s.size
    ·have hr : Hid (parseS false s.data.toList = (0, 1)) := Lib.hid (parseS_lead (.inr ⟨by rw [hhd, hc2], .inl (by rw [len_list]; omega)⟩))
     obtain ⟨e1, e2⟩ := ba_ne h1
     clear hp hc hc2 hhd h0
     go_enter Tryz.func99, Tryz.ntmps99
     go_wp2_with fail
     go_ret2
     exact ⟨pair_ret hr.out, rfl⟩
    ·exact parse_loop_z s w hs h1 (Lib.hid (by rw [len_list]; rintro ⟨_, h | h⟩; omega; cases h)) hb hz hlen
   ·rw [decide_eq_false hc2] at hz
    exact parse_loop_n s w hs h1 (Lib.hid (by rw [hhd]; simp [hc2])) hb hz
def sgn (b : Bool) (v : Nat) : Int := if b then -(v : Int) else v
theorem parseS_val {b : Bool} {l : List UInt8} (ha : l.all isDig = true) (h0 : l ≠ []) (hz : ¬ (l.head? = some 48 ∧ (1 < l.length ∨ b = true))) : parseS b l = (chkV (sgn b (valOf l)), chkE (sgn b (valOf l))) := by
 unfold parseS
 rw [if_neg (by rintro (h | h | h); exact h0 h; exact hz h; rw [ha] at h; cases h)]
 rfl
theorem decF_acc (f : Nat) : ∀ (m : Nat) (acc : List UInt8), m < 10 ^ f → decF f m acc = decF f m [] ++ acc := by
 induction f with
 | zero => intro m acc h; simp [decF]
 | succ f ih =>
  intro m acc h
  unfold decF
  split
  ·rfl
  ·have hm : m / 10 < 10 ^ f := by rw [Nat.pow_succ] at h; omega
   rw [ih _ (digB (m % 10) :: acc) hm, ih _ [digB (m % 10)] hm, List.append_assoc]; rfl
theorem decF_fuel (f : Nat) : ∀ (g m : Nat) (acc : List UInt8), f ≤ g → 1 ≤ f → m < 10 ^ f → decF g m acc = decF f m acc := by
 induction f with
 | zero => intro g m acc _ h; omega
 | succ f ih =>
  intro g m acc hg _ h
  obtain ⟨g, rfl⟩ : ∃ g', g = g' + 1 := ⟨g - 1, by omega⟩
  unfold decF
  split
  ·rfl
  ·have hm : m / 10 < 10 ^ f := by rw [Nat.pow_succ] at h; omega
   rcases Nat.eq_zero_or_pos f with h0 | h0
   ·subst h0; simp at hm; omega
   ·exact ih g _ _ (by omega) h0 hm
theorem decF_len (f : Nat) : ∀ (m : Nat) (acc : List UInt8), (decF f m acc).length ≤ f + acc.length := by
 induction f with
 | zero => intro m acc; simp [decF]
 | succ f ih =>
  intro m acc
  unfold decF
  split
  ·simp; omega
  ·have := ih (m / 10) (digB (m % 10) :: acc); simp at this; omega
theorem decN_len (m : Nat) : (decN m).length ≤ 19 := decF_len 19 m []
theorem decN_small {m : Nat} (h : m < 10) : decN m = [digB m] := by unfold decN decF; rw [if_pos h]
theorem decN_step {m : Nat} (h : ¬ m < 10) (hm : m < 10 ^ 19) : decN m = decN (m / 10) ++ [digB (m % 10)] := by
 have h1 : m / 10 < 10 ^ 18 := by omega
 unfold decN
 rw [show (19 : Nat) = 18 + 1 from rfl, decF, if_neg h, decF_acc 18 _ _ h1, decF_fuel 18 (18 + 1) _ _ (by omega) (by omega) h1]
theorem str_ret {a b : ByteArray} (h : a = b) : Ending.returned (.string a) = .returned (.string b) := by rw [h]
theorem digB_isDig {d : Nat} (h : d < 10) : isDig (digB d) = true := (isDig_iff _ (digB_nat h)).2 (by omega)
theorem digB_val {d : Nat} (h : d < 10) : (digB d).toNat - 48 = d := by have := digB_nat h; omega
theorem decN_facts (f : Nat) : ∀ m, m < 10 ^ (f + 1) → f ≤ 18 → (decN m).all isDig = true ∧ valOf (decN m) = m ∧ ∃ c t, decN m = c :: t ∧ (c = 48 → m = 0 ∧ t = []) ∧ c ≠ 45 := by
 induction f with
 | zero =>
  intro m h _
  have hm : m < 10 := by simpa using h
  rw [decN_small hm]
  have hd := digB_nat hm
  refine ⟨by simp [digB_isDig hm], by simp [valOf, digB_val hm], _, _, rfl, fun hc => ?_, fun hc => ?_⟩
  ·rw [hc] at hd
   have : ((48 : UInt8).toNat : Int) = 48 := rfl
   exact ⟨by omega, rfl⟩
  ·rw [hc] at hd
   have : ((45 : UInt8).toNat : Int) = 45 := rfl
   omega
 | succ f ih =>
  intro m h hf
  by_cases hm : m < 10
  ·exact (by
    rw [decN_small hm]
    have hd := digB_nat hm
    refine ⟨by simp [digB_isDig hm], by simp [valOf, digB_val hm], _, _, rfl, fun hc => ?_, fun hc => ?_⟩
    ·rw [hc] at hd
     have : ((48 : UInt8).toNat : Int) = 48 := rfl
     exact ⟨by omega, rfl⟩
    ·rw [hc] at hd
     have : ((45 : UInt8).toNat : Int) = 45 := rfl
     omega)
  ·have h19 : m < 10 ^ 19 := Nat.lt_of_lt_of_le h (Nat.pow_le_pow_right (by omega) (by omega))
   obtain ⟨a, b, c, t, hc, hz, h45⟩ := ih (m / 10) (by rw [Nat.pow_succ] at h; omega) (by omega)
   rw [decN_step hm h19]
   refine ⟨by rw [List.all_append, a]; simp [digB_isDig (d := m % 10) (by omega)], by rw [valOf_snoc, b, digB_val (by omega)]; omega, c, t ++ [digB (m % 10)], by rw [hc]; rfl, fun h48 => ?_, h45⟩
   have := hz h48; omega
theorem parse_text (n : Int) (hn : In64 n) : parseOf (textOf n) = (n, 0) := by
 have hm : n.natAbs < 10 ^ (18 + 1) := by unfold In64 at hn; omega
 obtain ⟨a, b, c, t, hc, hz, h45⟩ := decN_facts 18 n.natAbs hm (by omega)
 unfold textOf parseOf
 by_cases h : n < 0
 ·rw [if_pos h]
  rw [if_pos (by simp)]
  show parseS true (decN n.natAbs) = _
  have hs : ¬ ((decN n.natAbs).head? = some 48 ∧ (1 < (decN n.natAbs).length ∨ true = true)) := by
   rintro ⟨h1, _⟩
   rw [hc] at h1; simp at h1
   have := hz h1; omega
  have he : sgn true (valOf (decN n.natAbs)) = n := by rw [b]; simp only [sgn, if_true]; omega
  rw [parseS_val a (by rw [hc]; simp) hs, he, (chk_in hn).1, (chk_in hn).2]
 ·rw [if_neg h, List.nil_append]
  rw [if_neg (by rw [hc]; simpa using h45)]
  have hs : ¬ ((decN n.natAbs).head? = some 48 ∧ (1 < (decN n.natAbs).length ∨ false = true)) := by
   rintro ⟨h1, h2 | h2⟩
   ·rw [hc] at h1 h2; simp at h1 h2
    have := (hz h1).2; rw [this] at h2; simp at h2
   ·cases h2
  have he : sgn false (valOf (decN n.natAbs)) = n := by rw [b]; simp only [sgn, Bool.false_eq_true, if_false]; omega
  rw [parseS_val a (by rw [hc]; simp) hs, he, (chk_in hn).1, (chk_in hn).2]
end Go.Proofs.YtndhpdclpgemfaaGreat

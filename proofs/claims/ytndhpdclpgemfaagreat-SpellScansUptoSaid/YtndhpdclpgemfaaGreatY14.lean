/- Parts X7, P1, P3, P5, P8, P9 of this seat (pruned, scripts that are alike kept once as default arguments: q1, q2, ..). Conditions: each says its own. -/
import Derived.Test.YtndhpdclpgemfaaGreatProg
import Derived.Outline
import Derived.Lib.Mul64
import Derived.Laws.Bits64b
import Derived.Laws.BytesString
import Derived.Laws.IdiomStrings
import Derived.Lib.Strings
import Derived.Lib.IndexBytes
import Derived.Test.YtndhpdclpgemfaaGreatY1
import Derived.Test.YtndhpdclpgemfaaGreatY13
namespace Go.Proofs.YtndhpdclpgemfaaGreat
open Go.RowKit
set_option linter.unusedSimpArgs false
set_option linter.unusedVariables false
set_option maxRecDepth 100000
set_option maxHeartbeats 8000000 in
theorem rnamed_no (op : Int) (g1 : (op == 1) = false) (g2 : (op == 2) = false) (g3 : (op == 3) = false) (g4 : (op == 4) = false) (g15 : (op == 15) = false) (g5 : (op == 5) = false) (g6 : (op == 6) = false) (g7 : (op == 7) = false) (g8 : (op == 8) = false) (g9 : (op == 9) = false) (g11 : (op == 11) = false) (g12 : (op == 12) = false) (g10 : (op == 10) = false) (g13 : (op == 13) = false) (g14 : (op == 14) = false) : NamedSaid op := by
 intro nm v ns az cs B w hX hB hs hns haz
 obtain ⟨k, b, i, s, l, ks, la, lc, ka, kc, na, nc, xa, xc, hv, rfl, hop, hV, hNA, hXA, hNS, hAZ⟩ := hX.cells
 clear hX
 obtain ⟨q, hq⟩ := nam (namedB (.mk op nm v ns az))
 rw [hq]
 rw [namedB] at hq
 obtain ⟨n, hn⟩ := nam ns.length
 obtain ⟨m, hm⟩ := nam az.length
 have HN := Lib.hid hn
 have HM := Lib.hid hm
 rw [hn] at hNA hns
 rw [hm] at hXA haz
 try rw [hn] at hq
 try rw [hm] at hq
 rw [hn, hm]
 clear hn hm
 obtain ⟨W0, hW0⟩ : ∃ W0, w.alloc (.cells #[.int .i64 op, .string nm, .int .i64 k, .bool b, .int .i64 i, .string s, .slice la l.length lc, .slice ka ks.length kc, .slice na n nc, .slice xa m xc] 36) = W0 := ⟨_, rfl⟩
 have hb0 : Below w.heap.size w W0 := by rw [← hW0]; exact (Below.refl _ _).alloc (Nat.le_refl _) _
 have hx0 : Block W0 w.heap.size [.int .i64 op, .string nm, .int .i64 k, .bool b, .int .i64 i, .string s, .slice la l.length lc, .slice ka ks.length kc, .slice na n nc, .slice xa m xc] 36 := by rw [← hW0]; exact Block.new _ _ _
 have x0 := hx0.cell (i := 0) rfl
 have x1 := hx0.cell (i := 1) rfl
 have x2 := hx0.cell (i := 2) rfl
 have x3 := hx0.cell (i := 3) rfl
 have x4 := hx0.cell (i := 4) rfl
 have x5 := hx0.cell (i := 5) rfl
 have x6 := hx0.cell (i := 6) rfl
 have x7 := hx0.cell (i := 7) rfl
 have x8 := hx0.cell (i := 8) rfl
 have x9 := hx0.cell (i := 9) rfl
 rw [← hW0] at x0 x1 x2 x3 x4 x5 x6 x7 x8 x9
 obtain ⟨HB0, HX0, HW0, HV, HNS, HAZ⟩ := hd6 hb0 hx0 hW0 hV hNS hAZ
 clear hb0 hx0 hW0 hV hNS hAZ hop
 show Calls Tryz.prog 53 #[.agg #[.int .i64 op, .string nm, .int .i64 k, .bool b, .int .i64 i, .string s, .slice la l.length lc, .slice ka ks.length kc, .slice na n nc, .slice xa m xc]] w _
 have hq2 : q = false := by rw [← hq]; simp only [beq_eq_false_iff_ne, ne_eq] at g1 g2 g3 g4 g15 g5 g6 g7 g8 g9 g11 g12 g10 g13 g14; simp [g1, g2, g3, g4, g15, g5, g6, g7, g8, g9, g11, g12, g10, g13, g14]
 subst hq2
 clear hq
 go_enter Tryz.func53, Tryz.ntmps53
 go_wp2_with fail
 rw [HW0.out]
 go_ret
 exact ⟨by rfl, HB0.out⟩
theorem Sq66 {P : Prop} (h : P := by
 exact Sq98) : P := h
theorem Sq98 {P : Prop} (h : P := by
 go_enter Tryz.func53, Tryz.ntmps53
 go_wp2_with fail
 try rw [HW0.out]
 try rw [HW1.out]
 refine HMAY.out.mono ?_
 rintro e w2 ⟨rfl, hb2⟩
 have HB2 := Lib.hid (below_step HB1.out rfl hb2)
 have hz0 : W0.heap.size = w.heap.size + 1 := by rw [← HW0.out]; simp
 have z0 := (HV1.out.below hb2 HV1.out.lt).cell (i := 0) rfl
 have z2 := (HV1.out.below hb2 HV1.out.lt).cell (i := 2) rfl
 rw [hz0] at z0 z2
 clear hb2
 go_wp2_with fail
 go_ret
 exact ⟨by rfl, HB2.out⟩) : P := h
theorem Sq46 {P : Prop} (h : P := by
 cases b7 with
 | false =>
  exact Sq98
 | true =>
  exact Sq98) : P := h
set_option maxHeartbeats 8000000 in
theorem rnamed_1 : NamedSaid 1 := by
 intro nm v ns az cs B w hX hB hs hns haz
 obtain ⟨k, b, i, s, l, ks, la, lc, ka, kc, na, nc, xa, xc, hv, rfl, hop, hV, hNA, hXA, hNS, hAZ⟩ := hX.cells
 clear hX
 obtain ⟨q, hq⟩ := nam (namedB (.mk 1 nm v ns az))
 rw [hq]
 rw [namedB] at hq
 obtain ⟨n, hn⟩ := nam ns.length
 obtain ⟨m, hm⟩ := nam az.length
 have HN := Lib.hid hn
 have HM := Lib.hid hm
 rw [hn] at hNA hns
 rw [hm] at hXA haz
 try rw [hn] at hq
 try rw [hm] at hq
 rw [hn, hm]
 clear hn hm
 obtain ⟨W0, hW0⟩ : ∃ W0, w.alloc (.cells #[.int .i64 1, .string nm, .int .i64 k, .bool b, .int .i64 i, .string s, .slice la l.length lc, .slice ka ks.length kc, .slice na n nc, .slice xa m xc] 36) = W0 := ⟨_, rfl⟩
 have hb0 : Below w.heap.size w W0 := by rw [← hW0]; exact (Below.refl _ _).alloc (Nat.le_refl _) _
 have hx0 : Block W0 w.heap.size [.int .i64 1, .string nm, .int .i64 k, .bool b, .int .i64 i, .string s, .slice la l.length lc, .slice ka ks.length kc, .slice na n nc, .slice xa m xc] 36 := by rw [← hW0]; exact Block.new _ _ _
 have x0 := hx0.cell (i := 0) rfl
 have x1 := hx0.cell (i := 1) rfl
 have x2 := hx0.cell (i := 2) rfl
 have x3 := hx0.cell (i := 3) rfl
 have x4 := hx0.cell (i := 4) rfl
 have x5 := hx0.cell (i := 5) rfl
 have x6 := hx0.cell (i := 6) rfl
 have x7 := hx0.cell (i := 7) rfl
 have x8 := hx0.cell (i := 8) rfl
 have x9 := hx0.cell (i := 9) rfl
 rw [← hW0] at x0 x1 x2 x3 x4 x5 x6 x7 x8 x9
 obtain ⟨HB0, HX0, HW0, HV, HNS, HAZ⟩ := hd6 hb0 hx0 hW0 hV hNS hAZ
 clear hb0 hx0 hW0 hV hNS hAZ hop
 show Calls Tryz.prog 53 #[.agg #[.int .i64 1, .string nm, .int .i64 k, .bool b, .int .i64 i, .string s, .slice la l.length lc, .slice ka ks.length kc, .slice na n nc, .slice xa m xc]] w _
 rw [if_pos rfl] at hq
 subst hv
 obtain ⟨W1, hW1⟩ : ∃ W1, W0.alloc (.cells #[.int .i64 k, .bool b, .int .i64 i, .string s, .slice la l.length lc, .slice ka ks.length kc] 33) = W1 := ⟨_, rfl⟩
 have hb1 : Below W0.heap.size W0 W1 := by rw [← hW1]; exact (Below.refl _ _).alloc (Nat.le_refl _) _
 have hb01 : Below w.heap.size w W1 := HB0.out.trans (hb1.mono HB0.out.size)
 have hv1 : Block W1 W0.heap.size [.int .i64 k, .bool b, .int .i64 i, .string s, .slice la l.length lc, .slice ka ks.length kc] 33 := by rw [← hW1]; exact Block.new _ _ _
 have HMAY := Lib.hid (May_any _ _ B W1 (IsV.below hb01 hB _ _ HV.out) (Nat.le_trans hB hb01.size))
 have y0 := hv1.cell (i := 0) rfl
 have y1 := hv1.cell (i := 1) rfl
 have y2 := hv1.cell (i := 2) rfl
 have y3 := hv1.cell (i := 3) rfl
 have y4 := hv1.cell (i := 4) rfl
 have y5 := hv1.cell (i := 5) rfl
 rw [← hW1, ← HW0.out] at y0 y1 y2 y3 y4 y5
 obtain ⟨HB1, HV1, HW1⟩ := hd3 hb01 hv1 hW1
 clear hb1 hb01 hv1 hW1
 obtain ⟨b0, h0⟩ := nam ((nm.toList == []))
 obtain ⟨b1, h1⟩ : ∃ r, ((m : Int) == 0) = r := ⟨_, rfl⟩
 obtain ⟨b2, h2⟩ := nam (mayB (.mk k b i s l ks))
 obtain ⟨b3, h3⟩ := nam ((k == 0))
 obtain ⟨b4, h4⟩ := nam ((k == 1))
 obtain ⟨b5, h5⟩ := nam ((k == 2))
 obtain ⟨b6, h6⟩ := nam (decide (0 ≤ i))
 obtain ⟨b7, h7⟩ := nam ((k == 3))
 rw [h2] at HMAY
 rw [litB, h0, h1, h2, h3, h4, h5, h6, h7] at hq
 subst hq
 clear h2
 cases b0 with
 | false =>
  go_enter Tryz.func53, Tryz.ntmps53
  go_wp2_with fail
  try rw [HW0.out]
  try rw [HW1.out]
  go_ret
  exact ⟨by rfl, HB1.out⟩
 | true =>
  cases b1 with
  | false =>
   go_enter Tryz.func53, Tryz.ntmps53
   go_wp2_with fail
   try rw [HW0.out]
   try rw [HW1.out]
   go_ret
   exact ⟨by rfl, HB1.out⟩
  | true =>
   cases b2 with
   | false =>
    exact Sq66
   | true =>
    cases b3 with
    | false =>
     cases b4 with
     | false =>
      cases b5 with
      | false =>
       exact Sq46
      | true =>
       cases b6 with
       | false =>
        exact Sq46
       | true =>
        exact Sq66
     | true =>
      exact Sq66
    | true =>
     exact Sq66
set_option maxHeartbeats 8000000 in
theorem rnamed_15 : NamedSaid 15 := by
 intro nm v ns az cs B w hX hB hs hns haz
 obtain ⟨k, b, i, s, l, ks, la, lc, ka, kc, na, nc, xa, xc, hv, rfl, hop, hV, hNA, hXA, hNS, hAZ⟩ := hX.cells
 clear hX
 obtain ⟨q, hq⟩ := nam (namedB (.mk 15 nm v ns az))
 rw [hq]
 rw [namedB] at hq
 obtain ⟨n, hn⟩ := nam ns.length
 obtain ⟨m, hm⟩ := nam az.length
 have HN := Lib.hid hn
 have HM := Lib.hid hm
 rw [hn] at hNA hns
 rw [hm] at hXA haz
 try rw [hn] at hq
 try rw [hm] at hq
 rw [hn, hm]
 clear hn hm
 obtain ⟨W0, hW0⟩ : ∃ W0, w.alloc (.cells #[.int .i64 15, .string nm, .int .i64 k, .bool b, .int .i64 i, .string s, .slice la l.length lc, .slice ka ks.length kc, .slice na n nc, .slice xa m xc] 36) = W0 := ⟨_, rfl⟩
 have hb0 : Below w.heap.size w W0 := by rw [← hW0]; exact (Below.refl _ _).alloc (Nat.le_refl _) _
 have hx0 : Block W0 w.heap.size [.int .i64 15, .string nm, .int .i64 k, .bool b, .int .i64 i, .string s, .slice la l.length lc, .slice ka ks.length kc, .slice na n nc, .slice xa m xc] 36 := by rw [← hW0]; exact Block.new _ _ _
 have x0 := hx0.cell (i := 0) rfl
 have x1 := hx0.cell (i := 1) rfl
 have x2 := hx0.cell (i := 2) rfl
 have x3 := hx0.cell (i := 3) rfl
 have x4 := hx0.cell (i := 4) rfl
 have x5 := hx0.cell (i := 5) rfl
 have x6 := hx0.cell (i := 6) rfl
 have x7 := hx0.cell (i := 7) rfl
 have x8 := hx0.cell (i := 8) rfl
 have x9 := hx0.cell (i := 9) rfl
 rw [← hW0] at x0 x1 x2 x3 x4 x5 x6 x7 x8 x9
 obtain ⟨HB0, HX0, HW0, HV, HNS, HAZ⟩ := hd6 hb0 hx0 hW0 hV hNS hAZ
 clear hb0 hx0 hW0 hV hNS hAZ hop
 show Calls Tryz.prog 53 #[.agg #[.int .i64 15, .string nm, .int .i64 k, .bool b, .int .i64 i, .string s, .slice la l.length lc, .slice ka ks.length kc, .slice na n nc, .slice xa m xc]] w _
 rw [if_neg (ng 15 1), if_neg (ng 15 2), if_neg (ng 15 3), if_neg (ng 15 4), if_pos rfl] at hq
 have HK : Hid (∀ u, Calls Tryz.prog 103 #[.string nm] u fun e w' => e = .returned (.bool (keyB nm)) ∧ u = w') := Lib.hid (fun u => rkey11_any nm u hs)
 obtain ⟨b1, h1⟩ := nam (keyB nm)
 obtain ⟨b2, h2⟩ := nam ((firstOp az == 2))
 rw [h1] at HK
 rw [h1, h2] at hq
 by_cases hm1 : m = 1
 ·subst hm1
  have h0 : (((1 : Nat) : Int) == 1) = true := by decide
  rw [h0] at hq
  obtain ⟨t, ht⟩ := get_some (l := az) (j := 0) (by have := HM.out; omega)
  obtain ⟨eb, eo, cs2, rfl, heb, hcl, hcs, hX2⟩ := HAZ.out 0 t ht
  obtain ⟨op2, nm2, v2, ns2, az2⟩ := t
  have hf : firstOp az = op2 := by
   cases az with
   | nil => simp at ht
   | cons u us => simp at ht; subst ht; rfl
  rw [hf] at h2
  have hc2 := hX2
  unfold IsX at hc2
  obtain ⟨vc, na2, nc2, xa2, xc2, rfl, -⟩ := hc2
  have g0 := hcs 0 _ rfl
  have g1 : W0.cell? ⟨eb, eo, none⟩ = some (.int .i64 op2) := by rw [HB0.out.cell (by show eb < w.heap.size; omega)]; simpa using g0
  rw [← HW0.out] at g1
  subst hq
  clear g0 hf ht hcs hX2 hcl h1
  cases b1 <;> cases b2 <;>
  ·go_enter Tryz.func53, Tryz.ntmps53
   go_wp2_with fail
   refine (HK.out _).mono ?_
   rintro e w1 ⟨rfl, rfl⟩
   go_wp2_with fail
   rw [HW0.out]
   go_ret
   exact ⟨by rfl, HB0.out⟩
 ·have h0 : ((m : Int) == 1) = false := by simp; omega
  rw [h0] at hq
  have hq2 : q = false := by rw [← hq]; simp
  subst hq2
  clear hq h1 h2
  go_enter Tryz.func53, Tryz.ntmps53
  go_wp2_with fail
  rw [HW0.out]
  go_ret
  exact ⟨by rfl, HB0.out⟩
end Go.Proofs.YtndhpdclpgemfaaGreat
namespace Go.Proofs.YtndhpdclpgemfaaGreat
set_option maxRecDepth 100000
open Go.RowKit
set_option linter.unusedSimpArgs false
set_option linter.unusedVariables false
def In64 (n : Int) : Prop := -9223372036854775808 ≤ n ∧ n ≤ 9223372036854775807
instance (n : Int) : Decidable (In64 n) := by unfold In64; exact inferInstance
def chkV (n : Int) : Int := if In64 n then n else 0
def chkE (n : Int) : Int := if In64 n then 0 else 4
theorem chk_in {n : Int} (h : In64 n) : chkV n = n ∧ chkE n = 0 := by simp [chkV, chkE, h]
theorem chk_out {n : Int} (h : ¬ In64 n) : chkV n = 0 ∧ chkE n = 4 := by simp [chkV, chkE, h]
theorem ret_two {a b c d : Int} (h1 : a = c) (h2 : b = d) : Ending.returned (.tuple #[.int .i64 a, .int .i64 b]) = .returned (.tuple #[.int .i64 c, .int .i64 d]) := by rw [h1, h2]
theorem chk_cases (n : Int) : (In64 n ∧ chkV n = n ∧ chkE n = 0) ∨ (¬ In64 n ∧ chkV n = 0 ∧ chkE n = 4) := by
 by_cases h : In64 n
 ·exact .inl ⟨h, chk_in h⟩
 ·exact .inr ⟨h, chk_out h⟩
theorem ret_u64 {a b : Int} (h : a = b) : Ending.returned (.int .u64 a) = .returned (.int .u64 b) := by rw [h]
theorem size_any (a : Int) (w : World) (ha : In64 a) : Calls Tryz.prog 186 #[.int .i64 a] w fun e w' => e = .returned (.int .u64 (a.natAbs : Int)) ∧ w = w' := by
 by_cases h1 : a < 0
 all_goals
  go_enter Tryz.func186, Tryz.ntmps186
  go_wp2
  go_ret
  refine ⟨ret_u64 ?_, rfl⟩
  unfold In64 at ha
  simp only [IntKind.wrap_u64]
  omega
theorem signed_any (m : Int) (b : Bool) (w : World) (h0 : 0 ≤ m) (hm : m ≤ 18446744073709551615) : Calls Tryz.prog 133 #[.int .u64 m, .bool b] w fun e w' => e = .returned (.tuple #[.int .i64 (chkV (if b then -m else m)), .int .i64 (chkE (if b then -m else m))]) ∧ w = w' := by
 have HM := Lib.hid hm; clear hm
 have HC := Lib.hid (chk_cases (if b then -m else m))
 cases b
 ·by_cases h : m < 9223372036854775808
  all_goals
   go_enter Tryz.func133, Tryz.ntmps133
   go_wp2
   go_ret2
   have hc := HC.out
   have hm := HM.out
   simp only [In64, Bool.false_eq_true, if_false] at hc ⊢
   exact ⟨ret_two (by omega) (by omega), trivial⟩
 ·by_cases h : m ≤ 9223372036854775808
  all_goals
   go_enter Tryz.func133, Tryz.ntmps133
   go_wp2
   go_ret2
   have hc := HC.out
   have hm := HM.out
   simp only [In64, if_true] at hc ⊢
   refine ⟨ret_two ?_ ?_, trivial⟩
   ·first | omega | (simp only [IntKind.wrap_u64, wrap64]; omega)
   ·omega
theorem natAbs_le {a : Int} (ha : In64 a) : (a.natAbs : Int) ≤ 9223372036854775808 := by unfold In64 at ha; omega
theorem signs (a b : Int) : ∃ x y : Nat, a.natAbs = x ∧ b.natAbs = y ∧ ((a < 0 ∧ a = -x) ∨ (¬ a < 0 ∧ a = x)) ∧ ((b < 0 ∧ b = -y) ∨ (¬ b < 0 ∧ b = y)) :=
  ⟨a.natAbs, b.natAbs, rfl, rfl, by omega, by omega⟩
def digB (d : Nat) : UInt8 := UInt8.ofNat (48 + d)
def decF : Nat → Nat → List UInt8 → List UInt8
  | 0, _, acc => acc
  | f + 1, m, acc => if m < 10 then digB m :: acc else decF f (m / 10) (digB (m % 10) :: acc)
def decN (m : Nat) : List UInt8 := decF 19 m []
def textOf (n : Int) : List UInt8 := (if n < 0 then [45] else []) ++ decN n.natAbs
def bytesV (l : List UInt8) : List Value := l.map fun b => .int .u8 b.toNat
def digitsV : List Value := [.int .u8 48, .int .u8 49, .int .u8 50, .int .u8 51, .int .u8 52, .int .u8 53, .int .u8 54, .int .u8 55, .int .u8 56, .int .u8 57]
theorem digitsV_get {d : Nat} (h : d < 10) : digitsV[d]? = some (.int .u8 (digB d).toNat) := by
 have : d = 0 ∨ d = 1 ∨ d = 2 ∨ d = 3 ∨ d = 4 ∨ d = 5 ∨ d = 6 ∨ d = 7 ∨ d = 8 ∨ d = 9 := by omega
 rcases this with rfl | rfl | rfl | rfl | rfl | rfl | rfl | rfl | rfl | rfl <;> rfl
theorem digB_nat {d : Nat} (h : d < 10) : ((digB d).toNat : Int) = 48 + d := by
 unfold digB; simp; omega
def bufV (f : Nat) (L : List UInt8) : List Value := List.replicate f (.int .u8 0) ++ bytesV L
theorem bufV_get (f : Nat) (L : List UInt8) : (bufV (f + 1) L)[f]? = some (.int .u8 0) := by
 unfold bufV; rw [List.getElem?_append_left (by simp)]; simp
theorem bufV_set (f : Nat) (L : List UInt8) (b : UInt8) : (bufV (f + 1) L).set f (.int .u8 b.toNat) = bufV f (b :: L) := by
 unfold bufV
 rw [List.set_append_left _ _ (by simp), List.replicate_succ', List.set_append_right _ _ (by simp)]
 simp [bytesV]
theorem slice20 (b f : Nat) (hf : f ≤ 19) (w : World) : (Instr.sliceAt 210 (.pointer (some ⟨b, 0, none⟩)) (some (.int .i64 (f : Int))) none none).run Tryz.prog w = .ok (.slice (some ⟨b, f, none⟩) (20 - f) (20 - f)) w := by
 have hl : Tryz.prog.arrayLen 210 = 20 := by kernel_rfl
 have he : Tryz.prog.elem 210 = 5 := by kernel_rfl
 have hu : Tryz.prog.underlying 210 = some (.array (Tryz.prog.arrayLen 210) (Tryz.prog.elem 210)) := by rw [hl, he]; exact Tryz.underlying210
 have hz : ∀ w, (sizeOf 5).run Tryz.prog w = .ok 1 w := fun _ => by kernel_rfl
 rw [run_sliceAt_array_l w 210 ⟨b, 0, none⟩ hu .i64 f (by omega) (by rw [hl]; omega), he, hz, hl]
 simp only [Result.andThen, slicedAt, Int.toNat_natCast]
 rw [if_neg (by omega)]
 simp [addr_add]
theorem conv20 (b f : Nat) (L : List UInt8) (hL : L.length = 20 - f) (w : World) (h : Block w b (bufV f L) 210) : (convert 72 9 (.slice (some ⟨b, f, none⟩) (20 - f) (20 - f))).run Tryz.prog w = .ok (.string ⟨L.toArray⟩) w := by
 have hc := run_convert_bytes_back w 72 9 5 ⟨b, f, none⟩ (20 - f) L Tryz.underlying72 Tryz.underlying5 Tryz.underlying9 (fun j hj => by
  rw [addr_add]
  refine h.cell ?_
  unfold bufV bytesV
  rw [List.getElem?_append_right (by simp)]
  simp [List.getElem?_eq_getElem hj])
 rw [hL] at hc
 exact hc
set_option maxHeartbeats 400000 in
theorem text_any (n : Int) (w : World) (hn : In64 n) : Calls Tryz.prog 183 #[.int .i64 n] w fun e w' => e = .returned (.string ⟨(textOf n).toArray⟩) ∧ Below w.heap.size w w' := by
 have HN : Hid (n.natAbs < 10 ^ 19) := Lib.hid (by have := natAbs_le hn; omega)
 have HS := Lib.hid (fun w => size_any n w hn)
 clear hn
 go_enter Tryz.func183, Tryz.ntmps183
 go_wp2_with fail
 refine (HS.out _).mono ?_; rintro e w' ⟨rfl, rfl⟩
 go_wp2_with fail
 go_loopw [5, 6] (fun i m wr => ∃ (f mm : Nat) (L : List UInt8), i = .int .i64 ((f : Int) + 1) ∧ m = .int .u64 mm ∧ 1 ≤ f ∧ f ≤ 19 ∧ Hid (mm < 10 ^ f ∧ decF f mm L = decN n.natAbs ∧ L.length = 19 - f) ∧
     Block wr w.heap.size digitsV 209 ∧ Block wr (w.heap.size + 1) (bufV (f + 1) L) 210 ∧ Below w.heap.size w wr) (fun i _ _ => (intOf i).toNat)
 case atStart =>
  refine ⟨19, _, [], rfl, rfl, by omega, by omega, Lib.hid ⟨HN.out, rfl, rfl⟩, ?_, ?_, ((Below.refl _ _).alloc (Nat.le_refl _) _).alloc (by simp) _⟩
  ·exact (Block.new w digitsV 209).alloc _
  ·have h := Block.new (w.alloc (.cells digitsV.toArray 209)) (bufV 20 []) 210
   simp only [World.size_alloc] at h
   exact h
 case round =>
  obtain ⟨f, mm, L, rfl, rfl, hf1, hf2, hh, hb0, hb1, hbel⟩ := hrel
  have c0 := hb0.cell (digitsV_get (d := mm % 10) (by omega))
  have c1 := hb1.cell (bufV_get f L)
  have f1 := hb1.free f
  have hsz := hb1.lt
  have hb2 := hb1.set f (.int .u8 (digB (mm % 10)).toNat)
  rw [bufV_set] at hb2
  have hbel2 : Below w.heap.size w (wr.setCell ⟨w.heap.size + 1, f, none⟩ (.int .u8 (digB (mm % 10)).toNat)) := hbel.setCell (by simp) _
  by_cases hlt : mm < 10
  ·have hdl : decN n.natAbs = digB (mm % 10) :: L := by
    rw [← hh.out.2.1, show f = (f - 1) + 1 from by omega, decF, if_pos hlt, Nat.mod_eq_of_lt hlt]
   have hll : (digB (mm % 10) :: L).length = 20 - f := by simp only [List.length_cons]; have := hh.out.2.2; omega
   by_cases hneg : n < 0
   ·obtain ⟨g, rfl⟩ : ∃ g, f = g + 1 := ⟨f - 1, by omega⟩
    have hb3 := hb2.set g (.int .u8 45)
    have c3 := hb2.cell (bufV_get g (digB (mm % 10) :: L))
    have f3 := hb2.free g
    rw [show (bufV (g + 1) (digB (mm % 10) :: L)).set g (.int .u8 45) = bufV g (45 :: digB (mm % 10) :: L) from bufV_set g _ 45] at hb3
    have hs := slice20 (w.heap.size + 1) g (by omega)
    have hcv := conv20 (w.heap.size + 1) g _ (by simp only [List.length_cons] at hll ⊢; omega) _ hb3
    have hbel3 := Lib.hid (Below.setCell hbel2 (p := ⟨w.heap.size + 1, g, none⟩) (by simp) (.int .u8 45))
    have HD := Lib.hid hdl
    clear hb0 hb1 hb2 hb3 hdl hll hbel2
    go_wp2_with fail
    go_ret
    refine ⟨?_, hbel3.out⟩
    unfold textOf
    rw [if_pos hneg, HD.out]; rfl
   ·have hs := slice20 (w.heap.size + 1) f hf2
    have hcv := conv20 (w.heap.size + 1) f _ hll _ hb2
    have HBel := Lib.hid hbel2
    have HD := Lib.hid hdl
    clear hb0 hb1 hb2 hdl hll hbel2
    go_wp2_with fail
    go_ret
    refine ⟨?_, HBel.out⟩
    unfold textOf
    rw [if_neg (by omega), HD.out]; rfl
  ·have hw : IntKind.u64.wrap ((mm : Int) / 10) = ((mm / 10 : Nat) : Int) := by
    have h1 := hh.out.1
    have h2 : 10 ^ f ≤ 10 ^ 19 := Nat.pow_le_pow_right (by omega) hf2
    rw [IntKind.wrap_u64]; omega
   obtain ⟨HB0, HB2, HBel⟩ := hd3 hb0 hb2 hbel2
   clear hb0 hb1 hb2 hbel2
   go_wp2_with fail
   go_roundw
   case rel =>
    have hh := hh.out
    have hf3 : 2 ≤ f := by
     rcases Nat.lt_or_ge 1 f with h | h
     ·exact h
     ·have : f = 1 := by omega
      rw [this] at hh; omega
    refine ⟨f - 1, mm / 10, digB (mm % 10) :: L, ?_, rfl, by omega, by omega, Lib.hid ⟨?_, ?_, ?_⟩, ?_, ?_, HBel.out⟩
    ·simp; omega
    ·have h1 : 10 ^ f = 10 ^ (f - 1) * 10 := by rw [← Nat.pow_succ]; congr 1; omega
     omega
    ·rw [← hh.2.1]
     conv => rhs; rw [show f = (f - 1) + 1 from by omega, decF, if_neg hlt]
    ·simp only [List.length_cons]; omega
    ·exact HB0.out.set_other (by simp) _
    ·rw [show f - 1 + 1 = f from by omega]; exact HB2.out
   case measure => first | (simp [intOf]; done) | (simp [intOf]; omega)
def isDig (c : UInt8) : Bool := 48 ≤ c.toNat && c.toNat ≤ 57
def valOf (l : List UInt8) : Nat := l.foldl (fun v c => v * 10 + (c.toNat - 48)) 0
def parseS (below : Bool) (d : List UInt8) : Int × Int :=
  if d = [] ∨ (d.head? = some 48 ∧ (1 < d.length ∨ below = true)) ∨ d.all isDig = false then (0, 1)
  else (chkV (if below then -(valOf d : Int) else valOf d), chkE (if below then -(valOf d : Int) else valOf d))
def parseOf (l : List UInt8) : Int × Int := if l.head? = some 45 then parseS true l.tail else parseS false l
theorem ba_empty {s : ByteArray} (h : s.size = 0) : s.toList.isEmpty = true ∧ s.toList = [] := by
 rw [ByteArray.toList_eq]
 have : s.data.toList = [] := by
  have h' : s.data.toList.length = 0 := by simpa using h
  exact List.length_eq_zero_iff.1 h'
 rw [this]; exact ⟨rfl, rfl⟩
theorem ba_ne {s : ByteArray} (h : 0 < s.size) : s.toList.isEmpty = false ∧ ¬ s.toList = [] := by
 rw [ByteArray.toList_eq]
 have : s.data.toList ≠ [] := fun h0 => by
  have h' : s.data.toList.length = 0 := by rw [h0]; rfl
  have h2 : s.data.toList.length = s.size := by simp
  omega
 exact ⟨by simpa using this, this⟩
theorem get_list (s : ByteArray) (k : Nat) (h : k < s.size) : s.data.toList[k]? = some s[k] := by
 rw [List.getElem?_eq_getElem (by simpa using h)]; rfl
theorem head_list (s : ByteArray) (h : 0 < s.size) : s.data.toList.head? = some s[0] := by
 rw [← get_list s 0 h]; exact List.head?_eq_getElem?
theorem len_list (s : ByteArray) : s.data.toList.length = s.size := by simp
theorem ne_list (s : ByteArray) (h : 0 < s.size) : s.data.toList ≠ [] := fun h0 => by
  have h2 := len_list s
  rw [h0] at h2; simp at h2; omega
def Num (l : List UInt8) (k : Nat) (m : Int) (over : Bool) : Prop :=
  (l.take k).all isDig = true ∧ 0 ≤ m ∧ m ≤ 18446744073709551615 ∧ (over = false → m = valOf (l.take k)) ∧ (over = true → 9223372036854775808 < valOf (l.take k))
theorem valOf_snoc (l : List UInt8) (c : UInt8) : valOf (l ++ [c]) = valOf l * 10 + (c.toNat - 48) := by simp [valOf]
theorem Num.zero (l : List UInt8) : Num l 0 0 false := by simp [Num, valOf]
theorem isDig_iff (c : UInt8) {n : Int} (h : (c.toNat : Int) = n) : isDig c = true ↔ 48 ≤ n ∧ n ≤ 57 := by
 unfold isDig; simp only [Bool.and_eq_true, decide_eq_true_eq]; omega
theorem Num.step {l : List UInt8} {k : Nat} {m n m' : Int} {over over' : Bool} {c : UInt8} (h : Num l k m over) (hc : l[k]? = some c) (hn : (c.toNat : Int) = n) (h1 : 48 ≤ n) (h2 : n ≤ 57)
    (ho : over' = (over || decide (1152921504606846976 < m))) (hm : m' = IntKind.u64.wrap (IntKind.u64.wrap (m * 10) + (n - 48))) : Num l (k + 1) m' over' := by
 obtain ⟨a1, a2, a3, a4, a5⟩ := h
 have hd := (isDig_iff c hn).2 ⟨h1, h2⟩
 have hv : valOf (l.take (k + 1)) = valOf (l.take k) * 10 + (c.toNat - 48) := by rw [take_succ_some hc, valOf_snoc]
 simp only [IntKind.wrap_u64] at hm
 refine ⟨by rw [take_succ_some hc, List.all_append, a1]; simp [hd], by omega, by omega, fun h => ?_, fun h => ?_⟩
 ·rw [ho, Bool.or_eq_false_iff, decide_eq_false_iff_not] at h
  have := a4 h.1
  rw [hv]; omega
 ·rw [ho, Bool.or_eq_true, decide_eq_true_eq] at h
  rw [hv]
  rcases h with h | h
  ·have := a5 h; omega
  ·cases over with
   | true => have := a5 rfl; omega
   | false => have := a4 rfl; omega
theorem parseS_bad {b : Bool} {l : List UInt8} {k : Nat} {c : UInt8} {n : Int} (hc : l[k]? = some c) (hn : (c.toNat : Int) = n) (h : n < 48 ∨ 57 < n) : parseS b l = (0, 1) := by
 unfold parseS
 rw [if_pos]
 refine .inr (.inr ?_)
 cases ha : l.all isDig with
 | false => rfl
 | true =>
  have := List.all_eq_true.1 ha c (List.mem_of_getElem? hc)
  rw [isDig_iff c hn] at this; omega
theorem parseS_good {b : Bool} {l : List UInt8} {m : Int} {over : Bool} (h : Num l l.length m over) (h0 : l ≠ []) (hz : ¬ (l.head? = some 48 ∧ (1 < l.length ∨ b = true))) :
    parseS b l = if over then (0, 4) else (chkV (if b then -m else m), chkE (if b then -m else m)) := by
 obtain ⟨a1, a2, a3, a4, a5⟩ := h
 rw [List.take_length] at a1 a4 a5
 unfold parseS
 rw [if_neg (by rintro (h | h | h); exact h0 h; exact hz h; rw [a1] at h; cases h)]
 cases over with
 | false => rw [← a4 rfl]; rfl
 | true =>
  have := a5 rfl
  have hn : ¬ In64 (if b then -(valOf l : Int) else valOf l) := by
   unfold In64; cases b
   ·simp only [Bool.false_eq_true, if_false]; omega
   ·simp only [if_true]; omega
  rw [(chk_out hn).1, (chk_out hn).2]; rfl
theorem pair_ret {a b : Int} {p : Int × Int} (h : p = (a, b)) : Ending.returned (.tuple #[.int .i64 a, .int .i64 b]) = .returned (.tuple #[.int .i64 p.1, .int .i64 p.2]) := by rw [h]
theorem Sq27 {P : Prop} (h : P := by
 obtain ⟨hn1, hn2⟩ := ba_ne h0
 have HL := Lib.hid (len_list d)
 go_enter Tryz.func99, Tryz.ntmps99
 go_wp2_with fail
 go_loop [2, 3, 5, 6, 7] (fun _ _ m o i => ∃ (k : Nat) (mm : Int) (over : Bool), k ≤ d.size ∧ i = .int .i64 k ∧ m = .int .u64 mm ∧ o = .bool over ∧ Hid (Num d.data.toList k mm over)) (fun _ _ _ _ i => d.size - (intOf i).toNat)
 case atStart => exact ⟨0, 0, false, Nat.zero_le _, rfl, rfl, rfl, Lib.hid (Num.zero _)⟩
 case round =>
  obtain ⟨k, mm, over, hk, rfl, rfl, rfl, hh⟩ := hrel
  by_cases hlt : k < d.size
  ·obtain ⟨c, hc⟩ := nam d[k]
   have HG2 : Hid (d.data.toList[k]? = some c) := by rw [get_list d k hlt, hc]; exact Lib.hid rfl
   obtain ⟨n, hcn, hn0, hn3⟩ : ∃ n : Int, (c.toNat : Int) = n ∧ 0 ≤ n ∧ n ≤ 255 := ⟨_, rfl, by omega, by have := c.toNat_lt; omega⟩
   have HCN := Lib.hid hcn
   by_cases h48 : n < 48
   ·go_wp2_with fail
    go_ret2
    exact ⟨pair_ret (parseS_bad HG2.out HCN.out (.inl h48)), rfl⟩
   ·by_cases h57 : 57 < n
    ·go_wp2_with fail
     go_ret2
     exact ⟨pair_ret (parseS_bad HG2.out HCN.out (.inr h57)), rfl⟩
    ·cases over
     ·by_cases hbig : 1152921504606846976 < mm
      all_goals
       go_wp2_with fail
       go_round
       case rel =>
        refine ⟨k + 1, _, _, by omega, by go_num, rfl, rfl, Lib.hid (Num.step hh.out HG2.out HCN.out (by omega) (by omega) ?_ ?_)⟩
        ·simp [hbig]
        ·simp only [IntKind.wrap_u64]; try omega
       case measure => simp [intOf]; omega
     ·go_wp2_with fail
      go_round
      case rel =>
       refine ⟨k + 1, _, _, by omega, by go_num, rfl, rfl, Lib.hid (Num.step hh.out HG2.out HCN.out (by omega) (by omega) ?_ ?_)⟩
       ·simp
       ·simp only [IntKind.wrap_u64]; try omega
      case measure => simp [intOf]; omega
  ·obtain rfl : k = d.size := by omega
   have hN := hh.out
   rw [← HL.out] at hN
   first
   | (guard_hyp z27a; have HP := Lib.hid (parseS_good (b := false) hN (ne_list d h0) (by simpa using HG.out)))
   | (have HP := Lib.hid (parseS_good (b := true) hN (ne_list d h0) (by simpa using HG.out)))
   cases over
   ·have b1 := hN.2.1
    have HB := Lib.hid hN.2.2.1
    clear hN
    go_wp2_with fail
    refine (signed_any mm _ _ b1 HB.out).mono ?_; rintro e w' ⟨rfl, rfl⟩
    go_wp2_with fail
    go_ret2
    exact ⟨pair_ret HP.out, rfl⟩
   ·clear hN
    go_wp2_with fail
    go_ret2
    exact ⟨pair_ret HP.out, rfl⟩) : P := h
set_option maxHeartbeats 1000000 in
theorem parse_loop_b (d s : ByteArray) (w : World) (hs : 0 < s.size) (hm : d.size ≤ 9223372036854775807) (hb : ((s[0].toNat : Int) == 45) = true) (hd : s.extract 1 s.size = d) (h0 : 0 < d.size) (HG : Hid (¬ (d.data.toList.head? = some 48 ∧ (1 < d.data.toList.length ∨ true = true)))) (hz : ((d[0].toNat : Int) == 48) = false) :
    Calls Tryz.prog 99 #[.string s] w fun e w' => e = .returned (.tuple #[.int .i64 (parseS true d.data.toList).1, .int .i64 (parseS true d.data.toList).2]) ∧ w = w' := Sq27
set_option maxHeartbeats 1000000 in
theorem parse_loop_n (d : ByteArray) (w : World) (hm : d.size ≤ 9223372036854775807)  (h0 : 0 < d.size) (HG : Hid (¬ (d.data.toList.head? = some 48 ∧ (1 < d.data.toList.length ∨ false = true)))) (hb : ((d[0].toNat : Int) == 45) = false) (hz : ((d[0].toNat : Int) == 48) = false) :
    Calls Tryz.prog 99 #[.string d] w fun e w' => e = .returned (.tuple #[.int .i64 (parseS false d.data.toList).1, .int .i64 (parseS false d.data.toList).2]) ∧ w = w' := by
 have z27a := trivial
 exact Sq27
set_option maxHeartbeats 1000000 in
theorem parse_loop_z (d : ByteArray) (w : World) (hm : d.size ≤ 9223372036854775807)  (h0 : 0 < d.size) (HG : Hid (¬ (d.data.toList.head? = some 48 ∧ (1 < d.data.toList.length ∨ false = true)))) (hb : ((d[0].toNat : Int) == 45) = false) (hz : ((d[0].toNat : Int) == 48) = true) (hone : ¬ (1 : Int) < d.size) :
    Calls Tryz.prog 99 #[.string d] w fun e w' => e = .returned (.tuple #[.int .i64 (parseS false d.data.toList).1, .int .i64 (parseS false d.data.toList).2]) ∧ w = w' := by
 have z27a := trivial
 exact Sq27
theorem parseS_lead {b : Bool} {l : List UInt8} (h : l = [] ∨ (l.head? = some 48 ∧ (1 < l.length ∨ b = true))) : parseS b l = (0, 1) := by
 unfold parseS
 rw [if_pos]
 rcases h with h | h
 ·exact .inl h
 ·exact .inr (.inl h)
theorem u8_beq (c d : UInt8) : ((c.toNat : Int) == (d.toNat : Int)) = decide (c = d) := by
 by_cases h : c = d
 ·subst h; simp
 ·rw [decide_eq_false h, beq_eq_false_iff_ne]
  intro h2
  exact h (UInt8.toNat_inj.1 (by omega))
set_option maxHeartbeats 1000000 in
theorem parse_any (s : ByteArray) (w : World) (hs : s.size ≤ 9223372036854775807) : Calls Tryz.prog 99 #[.string s] w fun e w' => e = .returned (.tuple #[.int .i64 (parseOf s.data.toList).1, .int .i64 (parseOf s.data.toList).2]) ∧ w = w' := by
 by_cases h0 : s.size = 0
 ·have hr : Hid (parseOf s.data.toList = (0, 1)) := Lib.hid (by
   have h' : s.data.toList.length = 0 := by simpa using h0
   rw [List.length_eq_zero_iff.1 h']; rfl)
  have hz : ¬ (0 : Int) < s.size := by omega
  obtain ⟨e1, e2⟩ := ba_empty h0
  clear h0
  go_enter Tryz.func99, Tryz.ntmps99
  go_wp2_with fail
  go_ret2
  exact ⟨pair_ret hr.out, rfl⟩
 ·have h1 : 0 < s.size := by omega
  have hhd := head_list s h1
  have hb : ((s[0].toNat : Int) == 45) = decide (s[0] = 45) := u8_beq s[0] 45
  by_cases hc : s[0] = 45
  ·rw [decide_eq_true hc] at hb
   obtain ⟨d, hd⟩ := nam (s.extract 1 s.size)
   have hl : s.data.toList.tail = d.data.toList := by
    rw [← hd, Lib.extract_to_end, List.drop_one]
   have hdz : d.size = s.size - 1 := by rw [← len_list, ← len_list, ← hl, List.length_tail]
   have hp : parseOf s.data.toList = parseS true d.data.toList := by
    unfold parseOf; rw [hhd, hc, if_pos rfl, hl]
   rw [hp]
   clear hl hhd hp hc h0
   by_cases hz0 : d.size = 0
   ·obtain ⟨e1, e2⟩ := ba_empty hz0
    have hr : Hid (parseS true d.data.toList = (0, 1)) := Lib.hid (parseS_lead (.inl (by rw [← ByteArray.toList_eq]; exact e2)))
    clear hz0 hdz
    go_enter Tryz.func99, Tryz.ntmps99
    go_wp2_with fail
    go_ret2
    exact ⟨pair_ret hr.out, rfl⟩
   ·have h2 : 0 < d.size := by omega
    have hz : ((d[0].toNat : Int) == 48) = decide (d[0] = 48) := u8_beq d[0] 48
    have hhd := head_list d h2
    have hm : d.size ≤ 9223372036854775807 := by omega
    by_cases hc : d[0] = 48
    ·rw [decide_eq_true hc] at hz
     have hr : Hid (parseS true d.data.toList = (0, 1)) := Lib.hid (parseS_lead (.inr ⟨by rw [hhd, hc], .inr rfl⟩))
     obtain ⟨e1, e2⟩ := ba_ne h2
     clear hz0 hdz hhd hc
     by_cases hlen : (1 : Int) < d.size
     all_goals
      go_enter Tryz.func99, Tryz.ntmps99
      go_wp2_with fail
      go_ret2
      exact ⟨pair_ret hr.out, rfl⟩
    ·rw [decide_eq_false hc] at hz
     exact parse_loop_b d s w h1 hm hb hd h2 (Lib.hid (by rw [hhd]; simp [hc])) hz
  ·rw [decide_eq_false hc] at hb
   have hp : parseOf s.data.toList = parseS false s.data.toList := by
    unfold parseOf; rw [hhd, if_neg (by simpa using hc)]
   rw [hp]
   have hz : ((s[0].toNat : Int) == 48) = decide (s[0] = 48) := u8_beq s[0] 48
   by_cases hc2 : s[0] = 48
   ·rw [decide_eq_true hc2] at hz
    by_cases hlen : (1 : Int) < s.size
    ·have hr : Hid (parseS false s.data.toList = (0, 1)) := Lib.hid (parseS_lead (.inr ⟨by rw [hhd, hc2], .inl (by rw [len_list]; omega)⟩))
     obtain ⟨e1, e2⟩ := ba_ne h1
     clear hp hc hc2 hhd h0
     go_enter Tryz.func99, Tryz.ntmps99
     go_wp2_with fail
     go_ret2
     exact ⟨pair_ret hr.out, rfl⟩
    ·exact parse_loop_z s w hs h1 (Lib.hid (by rw [len_list]; rintro ⟨_, h | h⟩; omega; cases h)) hb hz hlen
   ·rw [decide_eq_false hc2] at hz
    exact parse_loop_n s w hs h1 (Lib.hid (by rw [hhd]; simp [hc2])) hb hz
def sgn (b : Bool) (v : Nat) : Int := if b then -(v : Int) else v
theorem valOf_mono (l : List UInt8) (k : Nat) : valOf (l.take k) ≤ valOf l := by
 conv => rhs; rw [← List.take_append_drop k l]
 generalize l.take k = a
 generalize l.drop k = t
 induction t generalizing a with
 | nil => simp
 | cons c t ih =>
  rw [show a ++ c :: t = (a ++ [c]) ++ t from by simp]
  refine Nat.le_trans ?_ (ih (a ++ [c]))
  rw [valOf_snoc]; omega
theorem parseS_val {b : Bool} {l : List UInt8} (ha : l.all isDig = true) (h0 : l ≠ []) (hz : ¬ (l.head? = some 48 ∧ (1 < l.length ∨ b = true))) : parseS b l = (chkV (sgn b (valOf l)), chkE (sgn b (valOf l))) := by
 unfold parseS
 rw [if_neg (by rintro (h | h | h); exact h0 h; exact hz h; rw [ha] at h; cases h)]
 rfl
end Go.Proofs.YtndhpdclpgemfaaGreat

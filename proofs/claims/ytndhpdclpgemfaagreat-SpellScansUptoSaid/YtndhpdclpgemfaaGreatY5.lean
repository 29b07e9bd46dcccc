/- Parts Look, Parts, PSame, X1 of this seat (pruned, scripts that are alike kept once as default arguments: q1, q2, ..). Conditions: each says its own. -/
import Derived.Test.YtndhpdclpgemfaaGreatY2
import Derived.Test.YtndhpdclpgemfaaGreatY3
import Derived.Test.YtndhpdclpgemfaaGreatY4
namespace Go.Proofs.YtndhpdclpgemfaaGreat
open Go.RowKit
set_option linter.unusedSimpArgs false
set_option linter.unusedVariables false
theorem bl_tri : ∀ x y : List UInt8, (Op.bytesLess x y = true ∧ Op.bytesLess y x = false ∧ x ≠ y) ∨ (x = y ∧ Op.bytesLess x y = false ∧ Op.bytesLess y x = false) ∨ (Op.bytesLess y x = true ∧ Op.bytesLess x y = false ∧ x ≠ y)
  | [], [] => .inr (.inl ⟨rfl, rfl, rfl⟩)
  | [], b :: y => .inl ⟨rfl, rfl, by simp⟩
  | a :: x, [] => .inr (.inr ⟨rfl, rfl, by simp⟩)
  | a :: x, b :: y => by
    have hs : ∀ (c d : UInt8) u v, Op.bytesLess (c :: u) (d :: v) = (decide (c < d) || (c == d && Op.bytesLess u v)) := fun _ _ _ _ => rfl
    rw [hs, hs]
    by_cases h1 : a < b
    · have h2 : ¬ b < a := by rw [UInt8.lt_iff_toNat_lt] at h1 ⊢; omega
      have h3 : a ≠ b := by intro e; subst e; exact h2 h1
      have h4 : (b == a) = false := beq_eq_false_iff_ne.2 (Ne.symm h3)
      exact .inl ⟨by simp [h1], by simp [h2, h4], fun e => h3 (List.cons.inj e).1⟩
    · by_cases h2 : b < a
      · have h3 : a ≠ b := by intro e; subst e; exact h1 h2
        have h4 : (a == b) = false := beq_eq_false_iff_ne.2 h3
        exact .inr (.inr ⟨by simp [h2], by simp [h1, h4], fun e => h3 (List.cons.inj e).1⟩)
      · have h3 : a = b := by rw [UInt8.lt_iff_toNat_lt] at h1 h2; exact UInt8.toNat_inj.1 (by omega)
        subst h3
        rcases bl_tri x y with ⟨p, q, r⟩ | ⟨p, q, r⟩ | ⟨p, q, r⟩
        · exact .inl ⟨by simp [p], by simp [h1, q], fun e => r (List.cons.inj e).2⟩
        · exact .inr (.inl ⟨by rw [p], by simp [h1, q], by simp [h1, r]⟩)
        · exact .inr (.inr ⟨by simp [p], by simp [h1, q], fun e => r (List.cons.inj e).2⟩)
set_option maxRecDepth 100000 in
set_option maxHeartbeats 4000000 in
theorem bare_any (k : Int) (b : Bool) (i : Int) (s : ByteArray) (la ka : Option Addr) (n lc m kc : Nat) (w : World) (h0 : 0 ≤ k) (h7 : k ≤ 7) :
    Calls Tryz.prog 154 #[.agg #[.int .i64 k, .bool b, .int .i64 i, .string s, .slice la n lc, .slice ka m kc]] w fun e w' => e = .returned (.bool (unusedV k b i s n m)) ∧ Below w.heap.size w w' := by
 have z2b := trivial
 exact Sq2
set_option maxRecDepth 100000 in
set_option maxHeartbeats 4000000 in
theorem keys_any (ks : List ByteArray) (ka : Option Addr) (kc : Nat) (B : Nat) (w : World) (hK : StrRow B w ka ks) (hl : ks.length ≤ 9223372036854775807) :
    Calls Tryz.prog 155 #[.slice ka ks.length kc] w fun e w' => e = .returned (.bool (keysOk ks)) ∧ w = w' := by
 obtain ⟨R, hR⟩ := nam (keysOk ks)
 have HR := Lib.hid hR
 rw [hR]
 clear hR
 have HK := Lib.hid hK
 clear hK
 go_enter Tryz.func155, Tryz.ntmps155
 go_wp2_with fail
 go_loop [7] (fun iv => ∃ (j : Nat), iv = .int .i64 j ∧ j ≤ ks.length ∧ Hid (∀ n, n < j → kOk ks n = true)) (fun iv => ks.length - (intOf iv).toNat)
 case atStart => exact ⟨0, rfl, Nat.zero_le _, Lib.hid (fun n h => by omega)⟩
 case round =>
  obtain ⟨j, rfl, hj, hm⟩ := hrel
  by_cases hlt : j < ks.length
  ·have hlt' : (j : Int) < ks.length := by omega
   obtain ⟨x, hx⟩ := get_some hlt
   rcases HK.out with h0 | ⟨kb, ko, rfl, hkb, hkc'⟩
   ·exfalso; rw [List.map_eq_nil_iff] at h0; rw [h0] at hlt; simp at hlt
   have g : w.cell? ⟨kb, ko + j, none⟩ = some (.string x) := hkc' j _ (by rw [List.getElem?_map, hx]; rfl)
   have HKC := Lib.hid hkc'
   clear hkc'
   have p0 : (0 : Int) ≤ (j : Int) := by omega
   have HX := Lib.hid hx
   clear hx
   by_cases z1 : x.size = 0
   ·obtain ⟨e1, e2⟩ := str_empty z1
    have HN : Hid (R = false) := Lib.hid (by rw [← HR.out]; exact keysOk_no hlt (kOk_no1 HX.out (by omega)))
    go_wp2_with fail
    go_ret
    exact ⟨by rw [HN.out]; rfl, rfl⟩
   obtain ⟨e1, e2⟩ := str_full z1
   by_cases z2 : 64 < x.size
   ·have z2d : (64 : Int) < x.size := by omega
    have HN : Hid (R = false) := Lib.hid (by rw [← HR.out]; exact keysOk_no hlt (kOk_no1 HX.out (by omega)))
    go_wp2_with fail
    go_ret
    exact ⟨by rw [HN.out]; rfl, rfl⟩
   have z2d : ¬ (64 : Int) < x.size := by omega
   by_cases z3 : j = 0
   ·have z3d : ¬ (0 : Int) < j := by omega
    have z3n : decide (0 < j) = false := by simp; omega
    have HKJ : Hid (kOk ks j = true) := Lib.hid (kOk_yes HX.out (by omega) (by omega) (.inl z3))
    clear z3
    go_wp2_with fail
    go_round
    case rel => exact ⟨j + 1, by go_num, by omega, Lib.hid (fun n hn => by
     by_cases hnj : n = j
     ·rw [hnj]; exact HKJ.out
     ·exact hm.out n (by omega))⟩
    case measure => simp [intOf]; omega
   have z3d : (0 : Int) < j := by omega
   have z3n : decide (0 < j) = true := by simp; omega
   obtain ⟨y, hy⟩ := get_some (l := ks) (j := j - 1) (by omega)
   have g' : w.cell? ⟨kb, ko + (j - 1), none⟩ = some (.string y) := HKC.out (j - 1) _ (by rw [List.getElem?_map, hy]; rfl)
   have HY := Lib.hid hy
   clear hy
   have u2 : (0 : Int) ≤ (j : Int) - 1 := by omega
   have u3 : (j : Int) - 1 < ks.length := by omega
   have u4 : ((j : Int) - 1).toNat = j - 1 := by omega
   have u5 : (1 : Int) ≤ j := by omega
   rcases bl_tri x.toList y.toList with ⟨e3, e4, e5⟩ | ⟨e3, e4, e5⟩ | ⟨e3, e4, e5⟩
   ·have HN : Hid (R = false) := Lib.hid (by rw [← HR.out]; exact keysOk_no hlt (kOk_no2 HX.out (by omega) HY.out (by unfold strLe; rw [e3]; rfl)))
    clear e3 e5
    go_wp2_with fail
    go_ret
    exact ⟨by rw [HN.out]; rfl, rfl⟩
   ·have HN : Hid (R = false) := Lib.hid (by rw [← HR.out]; exact keysOk_no hlt (kOk_no2 HX.out (by omega) HY.out (by unfold strLe; rw [e3]; simp)))
    clear e3 e4
    go_wp2_with fail
    go_ret
    exact ⟨by rw [HN.out]; rfl, rfl⟩
   ·have HKJ : Hid (kOk ks j = true) := Lib.hid (kOk_yes HX.out (by omega) (by omega) (.inr ⟨y, HY.out, by unfold strLe; rw [e4, beq_eq_false_iff_ne.2 e5]; rfl⟩))
    clear e4 e5
    go_wp2_with fail
    go_round
    case rel => exact ⟨j + 1, by go_num, by omega, Lib.hid (fun n hn => by
     by_cases hnj : n = j
     ·rw [hnj]; exact HKJ.out
     ·exact hm.out n (by omega))⟩
    case measure => simp [intOf]; omega
  ·have hlt' : ¬ (j : Int) < ks.length := by omega
   have HD : Hid (R = true) := Lib.hid (by rw [← HR.out]; exact keysOk_yes (fun n hn => hm.out n (by omega)))
   go_wp2_with fail
   go_ret
   exact ⟨by rw [HD.out]; rfl, rfl⟩
def LookSaid (t : Vt) : Prop := ∀ (cs : List Value) (B : Nat) (w : World) (d : Int) (p : Nat), IsV B w cs t → B ≤ w.heap.size → 0 ≤ d → d ≤ 1000000 → p ≤ 4096 →
    Calls Tryz.prog 148 #[.agg cs.toArray, .int .i64 d, .int .i64 p] w fun e w' => e = .returned (mayR (mayV t d p)) ∧ Below w.heap.size w w'
theorem Sq14 {P : Prop} (h : P := by
 first
 |(
  guard_hyp z14a
  have k5b : (k == 5) = false := by simp; omega
  by_cases i1 : i < 1
  ·have HN := Lib.hid (NO.out (headOk_no (fun h => h.2.2.2.2.2.1 ⟨by omega, i1⟩)))
   go_enter Tryz.func148, Tryz.ntmps148
   go_wp2_with fail
   refine (HU.out _).mono ?_
   rintro e w1 ⟨rfl, hb1⟩
   have hBX := (Block.new w [.int .i64 k, .bool b, .int .i64 i, .string s, .slice la l.length lc, .slice ka ks.length kc] 33).below hb1 (by simp)
   have x0 := hBX.cell (i := 0) rfl
   have x1 := hBX.cell (i := 1) rfl
   have x2 := hBX.cell (i := 2) rfl
   have x3 := hBX.cell (i := 3) rfl
   have x4 := hBX.cell (i := 4) rfl
   have x5 := hBX.cell (i := 5) rfl
   have HB1 := Lib.hid (hb1.mono (B' := w.heap.size + 1) (by simp))
   have HKW := Lib.hid (HKY.out w1 (below_step ((Below.refl _ _).alloc (Nat.le_refl _) _) rfl hb1))
   clear hb1 hBX
   go_wp2_with fail
   go_ret2
   exact ⟨by rw [HN.out]; rfl, ((Below.refl _ _).alloc (Nat.le_refl _) _).trans (HB1.out.mono (by omega))⟩
  have HD : Hid (headOk k b i s l.length ks d p = true) := Lib.hid (headOk_parts (by omega) d1 (by omega) (by omega) C5.out (by omega) (fun h => by omega)))
 |(
  guard_hyp z14b
  have k5b : (k == 5) = false := by simp; omega
  have HD : Hid (headOk k b i s l.length ks d p = true) := Lib.hid (headOk_parts (by omega) d1 (by omega) (by omega) C5.out (by omega) (fun h => absurd h k5))
  clear k5)
 |(
  have HD : Hid (headOk k b i s l.length ks d p = true) := Lib.hid (headOk_parts (by omega) d1 (by omega) (by omega) C5.out (by omega) (fun _ => ⟨HNL.out, hko⟩))
  rw [hko] at HKY
  clear hko)
 go_enter Tryz.func148, Tryz.ntmps148
 go_wp2_with fail
 refine (HU.out _).mono ?_
 rintro e w1 ⟨rfl, hb1⟩
 have hBX := (Block.new w [.int .i64 k, .bool b, .int .i64 i, .string s, .slice la l.length lc, .slice ka ks.length kc] 33).below hb1 (by simp)
 have x0 := hBX.cell (i := 0) rfl
 have x1 := hBX.cell (i := 1) rfl
 have x2 := hBX.cell (i := 2) rfl
 have x3 := hBX.cell (i := 3) rfl
 have x4 := hBX.cell (i := 4) rfl
 have x5 := hBX.cell (i := 5) rfl
 have HB1 := Lib.hid (hb1.mono (B' := w.heap.size + 1) (by simp))
 have HKW := Lib.hid (HKY.out w1 (below_step ((Below.refl _ _).alloc (Nat.le_refl _) _) rfl hb1))
 clear hb1 hBX
 go_wp2_with fail
 first
 |(
  guard_hyp z14c
  refine HKW.out.mono ?_
  rintro e w2 ⟨rfl, rfl⟩
  go_wp2_with fail)
 | skip
 go_loopw [2, 8, 9] (fun pv kv iv wr => ∃ (j q : Nat) (okb : Bool), iv = .int .i64 j ∧ pv = .int .i64 q ∧ kv = .bool okb ∧ j ≤ l.length ∧ q ≤ 4097 ∧ (okb = true → q ≤ 4096) ∧ Below (w.heap.size + 1) (w.alloc (.cells #[.int .i64 k, .bool b, .int .i64 i, .string s, .slice la l.length lc, .slice ka ks.length kc] 33)) wr ∧ Hid (R = if okb then mayR (mayVs (l.drop j) (d - 1) q) else mayR (q, false))) (fun _ _ iv _ => l.length - (intOf iv).toNat)
 case atStart => exact ⟨0, p + 1, true, by go_num, by go_num, rfl, Nat.zero_le _, by omega, fun _ => by omega, HB1.out, Lib.hid (by rw [← HR.out, mayV_go HD.out]; rfl)⟩
 case round =>
  obtain ⟨j, q, okb, rfl, rfl, rfl, hj, hq, hqk, hbr, hm⟩ := hrel
  have hBR := (Block.new w [.int .i64 k, .bool b, .int .i64 i, .string s, .slice la l.length lc, .slice ka ks.length kc] 33).below hbr (by simp)
  have y4 := hBR.cell (i := 4) rfl
  clear hBR
  have HBR := Lib.hid hbr
  clear hbr
  by_cases hlt : j < l.length
  ·have hlt' : (j : Int) < l.length := by omega
   cases okb with
   | false =>
    clear hqk
    go_wp2_with fail
    go_ret2
    exact ⟨by rw [hm.out]; rfl, ((Below.refl w.heap.size w).alloc (Nat.le_refl _) _).trans (HBR.out.mono (by omega))⟩
   | true =>
    have z91a := trivial
    exact Sq91
  ·have hlt' : ¬ (j : Int) < l.length := by omega
   have HF : Hid (R = mayR (q, okb)) := Lib.hid (by rw [hm.out, List.drop_of_length_le (by omega)]; cases okb <;> rfl)
   clear hqk
   go_wp2_with fail
   go_ret2
   exact ⟨by rw [HF.out]; rfl, ((Below.refl w.heap.size w).alloc (Nat.le_refl _) _).trans (HBR.out.mono (by omega))⟩) : P := h
set_option maxRecDepth 1000000 in
set_option maxHeartbeats 4000000 in
theorem look_any (t : Vt) : LookSaid t := by
 refine t.down (p := LookSaid) fun k b i s l ks ih cs B w d p hV hB hd0 hd1 hp => ?_
 unfold IsV at hV
 obtain ⟨la, lc, ka, kc, rfl, hk64, hi64, ⟨hlc, hlm⟩, ⟨hkc, hkm⟩, hla, hka, hK, hL⟩ := hV
 simp only [in64] at hk64 hi64
 have IH := Lib.hid ih
 have HK := Lib.hid hK
 have HLs := Lib.hid hL
 clear ih hK hL hla hka
 show Calls Tryz.prog 148 #[.agg #[.int .i64 k, .bool b, .int .i64 i, .string s, .slice la l.length lc, .slice ka ks.length kc], .int .i64 d, .int .i64 p] w _
 obtain ⟨R, hR⟩ := nam (mayR (mayV (.mk k b i s l ks) d p))
 have HR := Lib.hid hR
 rw [hR]
 clear hR
 have NO : Hid (headOk k b i s l.length ks d p = false → R = .tuple #[.int .i64 ((p : Int) + 1), .bool false]) := Lib.hid (fun h => by rw [← HR.out]; exact mayV_no h)
 by_cases c2 : d < 1
 ·have q2 : d < 1 := c2
  have HN := Lib.hid (NO.out (headOk_no (fun h => by omega)))
  go_enter Tryz.func148, Tryz.ntmps148
  go_wp2_with fail
  go_ret2
  exact ⟨by rw [HN.out]; rfl, (Below.refl _ _).alloc (Nat.le_refl _) _⟩
 have q2 : ¬ d < 1 := c2
 by_cases c1 : 4096 < p + 1
 ·have q1 : (4096 : Int) < (p : Int) + 1 := by omega
  have HN := Lib.hid (NO.out (headOk_no (fun h => by omega)))
  go_enter Tryz.func148, Tryz.ntmps148
  go_wp2_with fail
  go_ret2
  exact ⟨by rw [HN.out]; rfl, (Below.refl _ _).alloc (Nat.le_refl _) _⟩
 have q1 : ¬ (4096 : Int) < (p : Int) + 1 := by omega
 by_cases c3 : k < 0
 ·have q3 : k < 0 := c3
  have HN := Lib.hid (NO.out (headOk_no (fun h => by omega)))
  go_enter Tryz.func148, Tryz.ntmps148
  go_wp2_with fail
  go_ret2
  exact ⟨by rw [HN.out]; rfl, (Below.refl _ _).alloc (Nat.le_refl _) _⟩
 have q3 : ¬ k < 0 := c3
 by_cases c4 : 7 < k
 ·have q4 : 7 < k := c4
  have HN := Lib.hid (NO.out (headOk_no (fun h => by omega)))
  go_enter Tryz.func148, Tryz.ntmps148
  go_wp2_with fail
  go_ret2
  exact ⟨by rw [HN.out]; rfl, (Below.refl _ _).alloc (Nat.le_refl _) _⟩
 have q4 : ¬ 7 < k := c4
 have HU := Lib.hid (fun w => bare_any k b i s la ka l.length lc ks.length kc w (by omega) (by omega))
 have HKY := Lib.hid (fun w' (hb : Below w.heap.size w w') => keys_any ks ka kc B w' (HK.out.below hb hB) (by omega))
 by_cases c5 : unusedV k b i s l.length ks.length = true
 rotate_left
 ·have c5f : unusedV k b i s l.length ks.length = false := by simpa using c5
  have HN := Lib.hid (NO.out (headOk_no (fun h => c5 h.2.2.2.2.1)))
  rw [c5f] at HU
  clear c5 c5f
  go_enter Tryz.func148, Tryz.ntmps148
  go_wp2_with fail
  refine (HU.out _).mono ?_
  rintro e w1 ⟨rfl, hb1⟩
  go_wp2_with fail
  go_ret2
  exact ⟨by rw [HN.out]; rfl, below_step ((Below.refl _ _).alloc (Nat.le_refl _) _) rfl hb1⟩
 rw [c5] at HU
 have C5 := Lib.hid c5
 clear c5
 have d1 : 1 ≤ d := by omega
 by_cases k6 : 6 ≤ k
 ·have z14a := trivial
  exact Sq14
 by_cases k5 : k = 5
 rotate_left
 ·have z14b := trivial
  exact Sq14
 have k5b : (k == 5) = true := by simp; omega
 have K5 := Lib.hid k5
 clear k5
 by_cases hn : ks.length = l.length
 rotate_left
 ·have z43b := trivial
  exact Sq43
 have hnb : ((ks.length : Int) != (l.length : Int)) = false := by simp; omega
 have HNL := Lib.hid hn
 clear hn
 cases hko : keysOk ks with
 | false =>
  have z43a := trivial
  exact Sq43
 | true =>
  have z14c := trivial
  exact Sq14
theorem check_any (t : Vt) (cs : List Value) (B : Nat) (w : World) (hV : IsV B w cs t) (hB : B ≤ w.heap.size) :
    Calls Tryz.prog 143 #[.agg cs.toArray] w fun e w' => e = .returned (.int .i64 (if mayB t then 0 else 20)) ∧ Below w.heap.size w w' := by
 have HM := Lib.hid (fun w' (hb : Below w.heap.size w w') => look_any t cs B w' 32 0 (IsV.below hb hB t cs hV) (Nat.le_trans hB hb.size) (by omega) (by omega) (by omega))
 obtain ⟨k, b, i, s, l, ks⟩ := t
 unfold IsV at hV
 obtain ⟨la, lc, ka, kc, rfl, -, -, -, -, -, -, -, -⟩ := hV
 unfold mayB
 cases hm : mayV (.mk k b i s l ks) 32 0 with
 | mk n ok =>
  rw [hm] at HM
  clear hm
  unfold mayR at HM
  dsimp only at HM
  show Calls Tryz.prog 143 #[.agg #[.int .i64 k, .bool b, .int .i64 i, .string s, .slice la l.length lc, .slice ka ks.length kc]] w _
  have HB0 := Lib.hid ((Below.refl w.heap.size w).alloc (Nat.le_refl _) (.cells #[.int .i64 k, .bool b, .int .i64 i, .string s, .slice la l.length lc, .slice ka ks.length kc] 33))
  cases ok with
  | true =>
   go_enter Tryz.func143, Tryz.ntmps143
   go_wp2_with fail
   refine (HM.out _ HB0.out).mono ?_
   rintro e w1 ⟨rfl, hb1⟩
   go_wp2_with fail
   go_ret
   exact ⟨rfl, below_step HB0.out rfl hb1⟩
  | false =>
   go_enter Tryz.func143, Tryz.ntmps143
   go_wp2_with fail
   refine (HM.out _ HB0.out).mono ?_
   rintro e w1 ⟨rfl, hb1⟩
   go_wp2_with fail
   go_ret
   exact ⟨rfl, below_step HB0.out rfl hb1⟩
theorem IsVs.below {B B' : Nat} {w w' : World} {a : Option Addr} {l : List Vt} (h : IsVs B w a 0 l) (hb : Below B' w w') (hB : B ≤ B') : IsVs B w' a 0 l :=
  IsVs.mk (fun i t hi => by
    obtain ⟨b, off, cs, h1, h2, h3, h4⟩ := h.get i t hi
    exact ⟨b, off, cs, h1, h2, fun j v hj => by rw [hb.cell (by show b < B'; omega)]; exact h3 j v hj, IsV.below hb hB t cs h4⟩)
theorem IsVs.at {B : Nat} {w : World} {a : Option Addr} {l : List Vt} (h : IsVs B w a 0 l) {j : Nat} {t : Vt} (ht : l[j]? = some t) :
    ∃ eb eo k b i s l2 ks la lc ka kc, t = .mk k b i s l2 ks ∧ a = some ⟨eb, eo, none⟩ ∧ eb < B ∧
      (w.cell? ⟨eb, eo + j * 6, none⟩ = some (.int .i64 k) ∧ w.cell? ⟨eb, eo + j * 6 + 1, none⟩ = some (.bool b) ∧ w.cell? ⟨eb, eo + j * 6 + 2, none⟩ = some (.int .i64 i) ∧ w.cell? ⟨eb, eo + j * 6 + 3, none⟩ = some (.string s) ∧ w.cell? ⟨eb, eo + j * 6 + 4, none⟩ = some (.slice la l2.length lc) ∧ w.cell? ⟨eb, eo + j * 6 + 5, none⟩ = some (.slice ka ks.length kc)) ∧
      IsV B w [.int .i64 k, .bool b, .int .i64 i, .string s, .slice la l2.length lc, .slice ka ks.length kc] (.mk k b i s l2 ks) := by
 obtain ⟨eb, eo, cs, h1, h2, h3, h4⟩ := h.get j t ht
 obtain ⟨k, b, i, s, l2, ks⟩ := t
 have h5 := h4
 unfold IsV at h5
 obtain ⟨la, lc, ka, kc, rfl, _⟩ := h5
 have g := fun n v hv => by have := h3 n v hv; rwa [Nat.zero_add, ← Nat.add_assoc] at this
 exact ⟨eb, eo, k, b, i, s, l2, ks, la, lc, ka, kc, rfl, h1, h2, ⟨by have := g 0 _ rfl; rwa [Nat.add_zero] at this, g 1 _ rfl, g 2 _ rfl, g 3 _ rfl, g 4 _ rfl, g 5 _ rfl⟩, h4⟩
mutual
def partsV : Vt → Nat
  | .mk _ _ _ _ l _ => 1 + partsVs l
def partsVs : List Vt → Nat
  | [] => 0
  | t :: ts => partsV t + partsVs ts
end
theorem partsVs_take {l : List Vt} {j : Nat} {t : Vt} (h : l[j]? = some t) : partsVs (l.take (j + 1)) = partsVs (l.take j) + partsV t := by
 rw [take_succ_some h]
 induction l.take j with
 | nil => simp [partsVs]
 | cons u us ih => simp only [List.cons_append, partsVs, ih]; omega
theorem partsVs_get {l : List Vt} {j : Nat} {t : Vt} (h : l[j]? = some t) : partsVs (l.take j) + partsV t ≤ partsVs l := by
 induction l generalizing j with
 | nil => simp at h
 | cons u us ih =>
  cases j with
  | zero => simp at h; subst h; simp [partsVs]
  | succ j =>
   have := ih (j := j) (by simpa using h)
   simp only [List.take_succ_cons, partsVs]; omega
def RPartsSaid (t : Vt) : Prop := ∀ (cs : List Value) (B : Nat) (w : World), IsV B w cs t → B ≤ w.heap.size → partsV t ≤ 1099511627776 →
    Calls Tryz.prog 56 #[.agg cs.toArray] w fun e w' => e = .returned (.int .i64 (partsV t)) ∧ Below w.heap.size w w'
set_option maxRecDepth 100000 in
set_option maxHeartbeats 4000000 in
theorem rparts_any (t : Vt) : RPartsSaid t := by
 refine t.down (p := RPartsSaid) fun k b i s l ks ih cs B w hV hB hp => ?_
 unfold IsV at hV
 obtain ⟨la, lc, ka, kc, rfl, -, -, ⟨hlc, hlm⟩, -, -, -, -, hL⟩ := hV
 have IH := Lib.hid ih
 have HLs := Lib.hid hL
 clear ih hL
 have HP : Hid (partsV (.mk k b i s l ks) = 1 + partsVs l) := Lib.hid (by unfold partsV; rfl)
 rw [HP.out] at hp
 show Calls Tryz.prog 56 #[.agg #[.int .i64 k, .bool b, .int .i64 i, .string s, .slice la l.length lc, .slice ka ks.length kc]] w _
 have HB0 := Lib.hid ((Below.refl w.heap.size w).alloc (Nat.le_refl _) (.cells #[.int .i64 k, .bool b, .int .i64 i, .string s, .slice la l.length lc, .slice ka ks.length kc] 33))
 have HBX := Lib.hid (Block.new w [.int .i64 k, .bool b, .int .i64 i, .string s, .slice la l.length lc, .slice ka ks.length kc] 33)
 rw [HP.out]
 go_enter Tryz.func56, Tryz.ntmps56
 go_wp2_with fail
 go_loopw [3, 4] (fun nv iv wr => ∃ (j n : Nat), iv = .int .i64 j ∧ nv = .int .i64 n ∧ j ≤ l.length ∧ Hid (n = 1 + partsVs (l.take j)) ∧ Hid (Below (w.heap.size + 1) (w.alloc (.cells #[.int .i64 k, .bool b, .int .i64 i, .string s, .slice la l.length lc, .slice ka ks.length kc] 33)) wr)) (fun _ iv _ => l.length - (intOf iv).toNat)
 case atStart => exact ⟨0, 1, rfl, rfl, Nat.zero_le _, Lib.hid (by simp [partsVs]), Lib.hid (Below.refl _ _)⟩
 case round =>
  obtain ⟨j, n, rfl, rfl, hj, HN, HBW⟩ := hrel
  have HBR := Lib.hid (HB0.out.trans (HBW.out.mono (by omega)))
  have y4 := (HBX.out.below HBW.out (by omega)).cell (i := 4) rfl
  by_cases hlt : j < l.length
  ·have hlt' : (j : Int) < l.length := by omega
   have hj0 : (0 : Int) ≤ (j : Int) := by omega
   obtain ⟨t, ht⟩ := get_some hlt
   have hpg := partsVs_get ht
   have hpt := partsVs_take ht
   obtain ⟨eb, eo, k2, b2, i2, s2, l2, ks2, la2, lc2, ka2, kc2, rfl, rfl, heb, ⟨g0, g1, g2, g3, g4, g5⟩, hVt⟩ := (HLs.out.below HBR.out hB).at ht
   have hz := HBW.out.size
   have HI := Lib.hid (IH.out j _ ht _ B wr hVt (Nat.le_trans hB HBR.out.size) (by omega))
   obtain ⟨m, hm⟩ := nam (partsV (.mk k2 b2 i2 s2 l2 ks2))
   rw [hm] at HI hpg hpt
   have HPT := Lib.hid hpt
   have hnm : n + m ≤ 1099511627776 := by have := HN.out; omega
   clear hVt ht hpg hpt hm
   go_wp2_with fail
   refine HI.out.mono ?_
   rintro e w2 ⟨rfl, hb2⟩
   have HB2 := Lib.hid (HBW.out.trans (hb2.mono (Nat.le_trans (by simp) hz)))
   clear hb2 g0 g1 g2 g3 g4 g5 y4
   go_wp2_with fail
   go_roundw
   case rel => exact ⟨j + 1, n + m, by go_num, by go_num, by omega, Lib.hid (by rw [HPT.out, HN.out]; omega), HB2⟩
   case measure => simp [intOf]; omega
  ·have hlt' : ¬ (j : Int) < l.length := by omega
   have HF : Hid (n = 1 + partsVs l) := Lib.hid (by rw [HN.out, List.take_of_length_le (by omega)])
   go_wp2_with fail
   go_ret
   exact ⟨by show Ending.returned (.int .i64 (n : Int)) = _; rw [HF.out]; first | rfl | simp, HBR.out⟩
set_option maxRecDepth 1000000 in
set_option maxHeartbeats 2000000 in
theorem pnames_any (ks ms : List ByteArray) (ka ma : Option Addr) (kc mc : Nat) (B : Nat) (w : World) (hk : StrRow B w ka ks) (hm : StrRow B w ma ms) (hB : B ≤ w.heap.size) (hkl : ks.length ≤ 9223372036854775807) (hml : ms.length ≤ 9223372036854775807) :
    Calls Tryz.prog 123 #[.slice ka ks.length kc, .slice ma ms.length mc] w fun e w' => e = .returned (.bool (decide (ks = ms))) ∧ Below w.heap.size w w' := by
 have z22a := trivial
 exact Sq22
def PSameSaid (a : Vt) : Prop := ∀ (b : Vt) (cs ds : List Value) (B : Nat) (w : World), IsV B w cs a → IsV B w ds b → B ≤ w.heap.size →
    Calls Tryz.prog 83 #[.agg cs.toArray, .agg ds.toArray] w fun e w' => e = .returned (.bool (sameV a b)) ∧ Below w.heap.size w w'
theorem Sq68 {P : Prop} (h : P := by
 go_wp2_with fail
 refine (HCS.out _ (((Below.refl _ _).alloc (Nat.le_refl _) _).alloc (by simp) _)).mono ?_
 rintro e w2 ⟨rfl, hb2⟩
 have HB2 := Lib.hid (below_step ((HBR.out.alloc hz _).alloc (by simp; omega) _) rfl hb2)
 clear hb2 g0 g1 g2 g3 g4 g5 f0 f1 f2 f3 f4 f5
 go_wp2_with fail
 first
 |(
  guard_hyp z68a
  go_roundw
  case rel => exact ⟨j + 1, by go_num, by omega, HB2, Lib.hid (by rw [ht.out, HST.out, Bool.true_and])⟩
  case measure => simp [intOf]; omega)
 |(
  go_ret
  exact ⟨by rw [ht.out, HST.out, Bool.false_and]; rfl, HB2.out⟩)) : P := h
set_option maxRecDepth 1000000 in
set_option maxHeartbeats 4000000 in
theorem psameList_any (l m : List Vt) (ih : ∀ (j : Nat) t, l[j]? = some t → PSameSaid t) (la ma : Option Addr) (lc mc : Nat) (B : Nat) (w : World) (hl : IsVs B w la 0 l) (hm : IsVs B w ma 0 m) (hB : B ≤ w.heap.size) (hll : l.length ≤ 9223372036854775807) (hml : m.length ≤ 9223372036854775807) :
    Calls Tryz.prog 124 #[.slice la l.length lc, .slice ma m.length mc, .func (.func 83) #[] #[]] w fun e w' => e = .returned (.bool (sameVs l m)) ∧ Below w.heap.size w w' := by
 have HL := Lib.hid hl
 have HM := Lib.hid hm
 have IH := Lib.hid ih
 clear hl hm ih
 obtain ⟨R, hR⟩ := nam (sameVs l m)
 have HR := Lib.hid hR
 rw [hR]
 clear hR
 by_cases hn : l.length = m.length
 rotate_left
 ·exact Sq83
 have hnb : ((l.length : Int) != (m.length : Int)) = false := by simp; omega
 have HNL := Lib.hid hn
 clear hn
 go_enter Tryz.func124, Tryz.ntmps124
 go_wp2_with fail
 go_loopw [17] (fun iv wr => ∃ j : Nat, iv = .int .i64 j ∧ j ≤ l.length ∧ Hid (Below w.heap.size w wr) ∧ Hid (R = sameVs (l.drop j) (m.drop j))) (fun iv _ => l.length - (intOf iv).toNat)
 case atStart => exact ⟨0, rfl, Nat.zero_le _, Lib.hid (Below.refl _ _), Lib.hid HR.out.symm⟩
 case round =>
  obtain ⟨j, rfl, hj, HBR, ht⟩ := hrel
  by_cases hlt : j < l.length
  ·have hlt' : (j : Int) < l.length := by omega
   have hlm : j < m.length := by have := HNL.out; omega
   have hlm' : (j : Int) < m.length := by omega
   have p0 : (0 : Int) ≤ (j : Int) := by omega
   obtain ⟨t, hx⟩ := get_some hlt
   obtain ⟨u, hy⟩ := get_some hlm
   have HST := Lib.hid (sameVs_at hx hy)
   have hz := HBR.out.size
   obtain ⟨eb, eo, k1, b1, i1, s1, l1, ks1, la1, lc1, ka1, kc1, rfl, rfl, heb, ⟨g0, g1, g2, g3, g4, g5⟩, hV1⟩ := (HL.out.below HBR.out hB).at hx
   obtain ⟨fb, fo, k2, b2, i2, s2, l2, ks2, la2, lc2, ka2, kc2, rfl, rfl, hfb, ⟨f0, f1, f2, f3, f4, f5⟩, hV2⟩ := (HM.out.below HBR.out hB).at hy
   have HCS := Lib.hid (fun w' (hb : Below wr.heap.size wr w') => IH.out j _ hx _ _ _ B w' (IsV.below hb (Nat.le_trans hB hz) _ _ hV1) (IsV.below hb (Nat.le_trans hB hz) _ _ hV2) (Nat.le_trans hB (Nat.le_trans hz hb.size)))
   have hebr : eb < wr.heap.size := by omega
   have hfbr : fb < wr.heap.size := by omega
   clear hx hy hV1 hV2
   obtain ⟨eq, heq⟩ := nam (sameV (.mk k1 b1 i1 s1 l1 ks1) (.mk k2 b2 i2 s2 l2 ks2))
   rw [heq] at HCS HST
   clear heq
   cases eq with
   | true =>
    have z68a := trivial
    exact Sq68
   | false =>
    exact Sq68
  ·have hlt' : ¬ (j : Int) < l.length := by omega
   have HN : Hid (R = true) := Lib.hid (by rw [ht.out, List.drop_of_length_le (by omega), List.drop_of_length_le (by have := HNL.out; omega)]; rfl)
   go_wp2_with fail
   go_ret
   exact ⟨by rw [HN.out]; rfl, HBR.out⟩
set_option maxRecDepth 1000000 in
set_option maxHeartbeats 4000000 in
theorem psame_any (a : Vt) : PSameSaid a := by
 have z11b := trivial
 exact Sq11
end Go.Proofs.YtndhpdclpgemfaaGreat
namespace Go.Proofs.YtndhpdclpgemfaaGreat
open Go.RowKit Go.Deep Go.ChangeShapes Go.WideShapes
set_option linter.unusedVariables false
set_option linter.unusedSimpArgs false
set_option maxRecDepth 100000
def SlOk (a : Option Addr) (n c : Nat) : Prop := (n ≤ c ∧ c ≤ 9223372036854775807) ∧ (a = none → c = 0)
def RowR {α : Type} (R : List Value → α → Prop) (size B : Nat) (w : World) (a : Option Addr) (l : List α) : Prop :=
  ∀ (i : Nat) (o : α), l[i]? = some o → ∃ b off cs, a = some ⟨b, off, none⟩ ∧ b < B ∧ cs.length = size ∧ (∀ j v, cs[j]? = some v → w.cell? ⟨b, off + (i * size + j), none⟩ = some v) ∧ R cs o
theorem RowR.below {α : Type} {R R' : List Value → α → Prop} {size B B' : Nat} {w w' : World} {a : Option Addr} {l : List α} (h : RowR R size B w a l) (hb : Below B' w w') (hB : B ≤ B') (hR : ∀ cs x, R cs x → R' cs x) : RowR R' size B w' a l := by
 intro i o ho
 obtain ⟨b, off, cs, h1, h2, h3, h4, h5⟩ := h i o ho
 exact ⟨b, off, cs, h1, h2, h3, fun j v hv => by rw [hb.cell (by show b < B'; omega)]; exact h4 j v hv, hR _ _ h5⟩
theorem RowR.mono {α : Type} {R R' : List Value → α → Prop} {size B B' : Nat} {w : World} {a : Option Addr} {l : List α} (h : RowR R size B w a l) (hB : B ≤ B') (hR : ∀ cs x, R cs x → R' cs x) : RowR R' size B' w a l := by
 intro i o ho
 obtain ⟨b, off, cs, h1, h2, h3, h4, h5⟩ := h i o ho
 exact ⟨b, off, cs, h1, by omega, h3, h4, hR _ _ h5⟩
def wtS (ks : List ByteArray) : Nat := (ks.map fun k => k.size + 1).sum
inductive Ex where
  | mk (op : Int) (nm : ByteArray) (val : Vt) (ns : List ByteArray) (args : List Ex)
mutual
def IsX (B : Nat) (w : World) : List Value → Ex → Prop
  | cs, .mk op nm v ns az => ∃ vc na nc xa xc, cs = .int .i64 op :: .string nm :: (vc ++ [.slice na ns.length nc, .slice xa az.length xc]) ∧ in64 op ∧ IsV B w vc v ∧ SlOk na ns.length nc ∧ SlOk xa az.length xc ∧ StrRow B w na ns ∧ IsXs B w xa 0 az
def IsXs (B : Nat) (w : World) : Option Addr → Nat → List Ex → Prop
  | _, _, [] => True
  | a, n, t :: ts => (∃ b off cs, a = some ⟨b, off, none⟩ ∧ b < B ∧ cs.length = 10 ∧ (∀ j v, cs[j]? = some v → w.cell? ⟨b, off + (n * 10 + j), none⟩ = some v) ∧ IsX B w cs t) ∧ IsXs B w a (n + 1) ts
end
mutual
def wtX : Ex → Nat
  | .mk _ nm v ns az => 1 + nm.size + wtV v + wtS ns + wtXs az
def wtXs : List Ex → Nat
  | [] => 0
  | t :: ts => wtX t + wtXs ts
end
theorem wtX_pos (t : Ex) : 1 ≤ wtX t := by cases t; unfold wtX; omega
theorem wtXs_sum (l : List Ex) : wtXs l = (l.map wtX).sum := by
 induction l with
 | nil => simp [wtXs]
 | cons t ts ih => simp [wtXs, ih]
theorem wtXs_len (l : List Ex) : l.length ≤ wtXs l := by
 induction l with
 | nil => simp
 | cons t ts ih => have := wtX_pos t; simp only [wtXs, List.length_cons]; omega
theorem wtXs_get {l : List Ex} {i : Nat} {t : Ex} (h : l[i]? = some t) : wtX t ≤ wtXs l := by rw [wtXs_sum]; exact sum_get wtX h
theorem Ex.down {p : Ex → Prop} (h : ∀ op nm v ns az, (∀ (j : Nat) t, az[j]? = some t → p t) → p (.mk op nm v ns az)) (t : Ex) : p t := by
 induction hn : wtX t using Nat.strongRecOn generalizing t with
 | _ n ih =>
  obtain ⟨op, nm, v, ns, az⟩ := t
  refine h op nm v ns az fun j t ht => ih (wtX t) ?_ t rfl
  have := wtXs_get ht
  rw [← hn]
  simp only [wtX]
  omega
theorem IsXs.row {B : Nat} {w : World} {a : Option Addr} {l : List Ex} : ∀ {n : Nat}, IsXs B w a n l → ∀ (i : Nat) (t : Ex), l[i]? = some t →
    ∃ b off cs, a = some ⟨b, off, none⟩ ∧ b < B ∧ cs.length = 10 ∧ (∀ j v, cs[j]? = some v → w.cell? ⟨b, off + ((n + i) * 10 + j), none⟩ = some v) ∧ IsX B w cs t := by
 induction l with
 | nil => intro n _ i t h; simp at h
 | cons u us ih =>
  intro n h i t ht
  unfold IsXs at h
  cases i with
  | zero => simp at ht; subst ht; exact h.1
  | succ i =>
   have := ih h.2 i t (by simpa using ht)
   rwa [show n + 1 + i = n + (i + 1) from by omega] at this
theorem IsXs.mk {B : Nat} {w : World} {a : Option Addr} {l : List Ex} : ∀ {n : Nat}, (∀ (i : Nat) (t : Ex), l[i]? = some t →
    ∃ b off cs, a = some ⟨b, off, none⟩ ∧ b < B ∧ cs.length = 10 ∧ (∀ j v, cs[j]? = some v → w.cell? ⟨b, off + ((n + i) * 10 + j), none⟩ = some v) ∧ IsX B w cs t) → IsXs B w a n l := by
 induction l with
 | nil => intro n _; simp [IsXs]
 | cons u us ih =>
  intro n h
  unfold IsXs
  exact ⟨h 0 u rfl, ih fun i t ht => by
   have := h (i + 1) t (by simpa using ht)
   rwa [show n + (i + 1) = n + 1 + i from by omega] at this⟩
theorem isXs_iff {B : Nat} {w : World} {a : Option Addr} {l : List Ex} : IsXs B w a 0 l ↔ RowR (IsX B w) 10 B w a l :=
  ⟨fun h i t ht => by have := h.row i t ht; rwa [Nat.zero_add] at this, fun h => IsXs.mk fun i t ht => by rw [Nat.zero_add]; exact h i t ht⟩
theorem IsX.below {B B' : Nat} {w w' : World} (hb : Below B' w w') (hB : B ≤ B') (t : Ex) : ∀ cs, IsX B w cs t → IsX B w' cs t := by
 refine t.down (p := fun t => ∀ cs, IsX B w cs t → IsX B w' cs t) fun op nm v ns az ih cs h => ?_
 unfold IsX at h ⊢
 obtain ⟨vc, na, nc, xa, xc, h1, h2, h3, h4, h5, h6, h7⟩ := h
 refine ⟨vc, na, nc, xa, xc, h1, h2, IsV.below hb hB v _ h3, h4, h5, h6.below hb hB, IsXs.mk fun j t ht => ?_⟩
 obtain ⟨b, off, cs', g1, g2, g3, g4, g5⟩ := h7.row j t ht
 exact ⟨b, off, cs', g1, g2, g3, fun q v hv => by rw [hb.cell (by show b < B'; omega)]; exact g4 q v hv, ih j t ht cs' g5⟩
theorem IsX.mono {B B' : Nat} {w : World} (hB : B ≤ B') (t : Ex) : ∀ cs, IsX B w cs t → IsX B' w cs t := by
 refine t.down (p := fun t => ∀ cs, IsX B w cs t → IsX B' w cs t) fun op nm v ns az ih cs h => ?_
 unfold IsX at h ⊢
 obtain ⟨vc, na, nc, xa, xc, h1, h2, h3, h4, h5, h6, h7⟩ := h
 refine ⟨vc, na, nc, xa, xc, h1, h2, IsV.mono hB v _ h3, h4, h5, h6.mono hB, IsXs.mk fun j t ht => ?_⟩
 obtain ⟨b, off, cs', g1, g2, g3, g4, g5⟩ := h7.row j t ht
 exact ⟨b, off, cs', g1, by omega, g3, g4, ih j t ht cs' g5⟩
theorem IsX.cells {B : Nat} {w : World} {cs : List Value} {op : Int} {nm : ByteArray} {v : Vt} {ns : List ByteArray} {az : List Ex} (h : IsX B w cs (.mk op nm v ns az)) :
    ∃ k b i s l ks la lc ka kc na nc xa xc, v = .mk k b i s l ks ∧ cs = [.int .i64 op, .string nm, .int .i64 k, .bool b, .int .i64 i, .string s, .slice la l.length lc, .slice ka ks.length kc, .slice na ns.length nc, .slice xa az.length xc] ∧ in64 op ∧
      IsV B w [.int .i64 k, .bool b, .int .i64 i, .string s, .slice la l.length lc, .slice ka ks.length kc] v ∧ SlOk na ns.length nc ∧ SlOk xa az.length xc ∧ StrRow B w na ns ∧ RowR (IsX B w) 10 B w xa az := by
 obtain ⟨k, b, i, s, l, ks⟩ := v
 unfold IsX at h
 obtain ⟨vc, na, nc, xa, xc, h1, h2, h3, h4, h5, h6, h7⟩ := h
 have h9 := h3
 unfold IsV at h9
 obtain ⟨la, lc, ka, kc, rfl, -⟩ := h9
 exact ⟨k, b, i, s, l, ks, la, lc, ka, kc, na, nc, xa, xc, rfl, h1, h2, h3, h4, h5, h6, isXs_iff.1 h7⟩
end Go.Proofs.YtndhpdclpgemfaaGreat

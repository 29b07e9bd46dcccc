/- Parts May2 of this seat (pruned, scripts that are alike kept once as default arguments: q1, q2, ..). Conditions: each says its own. -/
import Derived.Test.YtndhpdclpgemfaaGreatY2
namespace Go.Proofs.YtndhpdclpgemfaaGreat
open Go.RowKit
set_option linter.unusedSimpArgs false
set_option linter.unusedVariables false
theorem get_some {α : Type} {l : List α} {j : Nat} (h : j < l.length) : ∃ x, l[j]? = some x := ⟨l[j], List.getElem?_eq_getElem h⟩
theorem kOk_yes {ks : List ByteArray} {i : Nat} {x : ByteArray} (h : ks[i]? = some x) (h1 : 1 ≤ x.size) (h2 : x.size ≤ 64) (h3 : i = 0 ∨ ∃ y, ks[i - 1]? = some y ∧ strLe x y = false) : kOk ks i = true := by
 unfold kOk
 rw [h]
 dsimp only
 rw [decide_eq_true ⟨h1, h2⟩, Bool.true_and]
 rcases h3 with rfl | ⟨y, hy, hl⟩
 ·cases ks[0 - 1]? <;> simp
 ·rw [hy]
  dsimp only
  rw [hl]; simp
theorem kOk_no1 {ks : List ByteArray} {i : Nat} {x : ByteArray} (h : ks[i]? = some x) (h1 : ¬ (1 ≤ x.size ∧ x.size ≤ 64)) : kOk ks i = false := by
 unfold kOk
 rw [h]
 dsimp only
 rw [decide_eq_false h1, Bool.false_and]
theorem kOk_no2 {ks : List ByteArray} {i : Nat} {x y : ByteArray} (h : ks[i]? = some x) (hi : 0 < i) (hy : ks[i - 1]? = some y) (hl : strLe x y = true) : kOk ks i = false := by
 unfold kOk
 rw [h]
 dsimp only
 rw [hy]
 dsimp only
 rw [hl, decide_eq_false (show ¬ i = 0 from by omega)]
 simp
theorem keysOk_no {ks : List ByteArray} {i : Nat} (hi : i < ks.length) (h : kOk ks i = false) : keysOk ks = false := decide_eq_false (fun hh => by rw [hh i hi] at h; cases h)
theorem keysOk_yes {ks : List ByteArray} (h : ∀ i, i < ks.length → kOk ks i = true) : keysOk ks = true := decide_eq_true h
theorem headOk_parts {k : Int} {b : Bool} {i : Int} {s : ByteArray} {n : Nat} {ks : List ByteArray} {deep : Int} {parts : Nat} (h1 : parts + 1 ≤ 4096) (h2 : 1 ≤ deep) (h3 : 0 ≤ k) (h4 : k ≤ 7) (h5 : unusedV k b i s n ks.length = true) (h6 : ¬ ((k = 6 ∨ k = 7) ∧ i < 1)) (h7 : k = 5 → ks.length = n ∧ keysOk ks = true) : headOk k b i s n ks deep parts = true :=
  decide_eq_true ⟨h1, h2, h3, h4, h5, h6, h7⟩
theorem headOk_no {k : Int} {b : Bool} {i : Int} {s : ByteArray} {n : Nat} {ks : List ByteArray} {deep : Int} {parts : Nat} (h : ¬ (parts + 1 ≤ 4096 ∧ 1 ≤ deep ∧ 0 ≤ k ∧ k ≤ 7 ∧ unusedV k b i s n ks.length = true ∧ ¬ ((k = 6 ∨ k = 7) ∧ i < 1) ∧ (k = 5 → ks.length = n ∧ keysOk ks = true))) : headOk k b i s n ks deep parts = false := decide_eq_false h
def mayR (p : Nat × Bool) : Value := .tuple #[.int .i64 p.1, .bool p.2]
theorem mayV_no {k : Int} {b : Bool} {i : Int} {s : ByteArray} {l : List Vt} {ks : List ByteArray} {d : Int} {p : Nat} (h : headOk k b i s l.length ks d p = false) : mayR (mayV (.mk k b i s l ks) d p) = .tuple #[.int .i64 ((p : Int) + 1), .bool false] := by
 unfold mayV; rw [h]; rfl
theorem mayV_go {k : Int} {b : Bool} {i : Int} {s : ByteArray} {l : List Vt} {ks : List ByteArray} {d : Int} {p : Nat} (h : headOk k b i s l.length ks d p = true) : mayV (.mk k b i s l ks) d p = mayVs l (d - 1) (p + 1) := by
 unfold mayV; rw [h]; rfl
def MaySaid (t : Vt) : Prop := ∀ (cs : List Value) (B : Nat) (w : World) (d : Int) (p : Nat), IsV B w cs t → B ≤ w.heap.size → 0 ≤ d → d ≤ 1000000 → p ≤ 4096 →
    Calls Tryz.prog 136 #[.agg cs.toArray, .int .i64 d, .int .i64 p] w fun e w' => e = .returned (mayR (mayV t d p)) ∧ Below w.heap.size w w'
theorem Sq15 {P : Prop} (h : P := by
 first
 |(
  guard_hyp z15c
  have k5b : (k == 5) = false := by simp; omega
  have HD : Hid (headOk k b i s l.length ks d p = true) := Lib.hid (headOk_parts (by omega) d1 (by omega) (by omega) C5.out (by omega) (fun h => absurd h k5))
  go_enter Tryz.func136, Tryz.ntmps136
  go_wp2_with fail
  refine (HU.out _).mono ?_
  rintro e w1 ⟨rfl, hb1⟩
  have hBX := (Block.new w [.int .i64 k, .bool b, .int .i64 i, .string s, .slice la l.length lc, .slice ka ks.length kc] 33).below hb1 (by simp)
  have x0 := hBX.cell (i := 0) rfl
  have x1 := hBX.cell (i := 1) rfl
  have x2 := hBX.cell (i := 2) rfl
  have x3 := hBX.cell (i := 3) rfl
  have x4 := hBX.cell (i := 4) rfl
  have x5 := hBX.cell (i := 5) rfl
  have HB1 := Lib.hid (hb1.mono (B' := w.heap.size + 1) (by simp))
  clear hb1 hBX)
 |(
  guard_hyp z15d
  have hlt' : ¬ (j : Int) < ks.length := by omega
  have HD : Hid (headOk k b i s l.length ks d p = true) := Lib.hid (headOk_parts (by omega) d1 (by omega) (by omega) C5.out (by have := K5.out; omega) (fun _ => ⟨HNL.out, keysOk_yes (fun n hn => hm.out n (by omega))⟩)))
 |(
  first
  |(
   guard_hyp z15a
   have k7b : (k == 7) = true := by simp; exact k7
   have k6b : (k == 6) = false := by simp; omega)
  | (have k6b : (k == 6) = true := by simp; exact k6)
  have k5b : (k == 5) = false := by simp; omega
  by_cases i1 : i < 1
  ·have HN := Lib.hid (NO.out (headOk_no (fun h => h.2.2.2.2.2.1 ⟨by omega, i1⟩)))
   first
   | (guard_hyp z15a; clear k7)
   | (clear k6)
   go_enter Tryz.func136, Tryz.ntmps136
   go_wp2_with fail
   refine (HU.out _).mono ?_
   rintro e w1 ⟨rfl, hb1⟩
   have hBX := (Block.new w [.int .i64 k, .bool b, .int .i64 i, .string s, .slice la l.length lc, .slice ka ks.length kc] 33).below hb1 (by simp)
   have x0 := hBX.cell (i := 0) rfl
   have x1 := hBX.cell (i := 1) rfl
   have x2 := hBX.cell (i := 2) rfl
   have x3 := hBX.cell (i := 3) rfl
   have x4 := hBX.cell (i := 4) rfl
   have x5 := hBX.cell (i := 5) rfl
   have HB1 := Lib.hid (hb1.mono (B' := w.heap.size + 1) (by simp))
   clear hb1 hBX
   go_wp2_with fail
   go_ret2
   exact ⟨by rw [HN.out]; rfl, ((Below.refl _ _).alloc (Nat.le_refl _) _).trans (HB1.out.mono (by omega))⟩
  have HD : Hid (headOk k b i s l.length ks d p = true) := Lib.hid (headOk_parts (by omega) d1 (by omega) (by omega) C5.out (by omega) (fun h => by omega))
  have i1b : ¬ i < 1 := i1
  first
  | (guard_hyp z15a; clear k7)
  | (clear k6)
  go_enter Tryz.func136, Tryz.ntmps136
  go_wp2_with fail
  refine (HU.out _).mono ?_
  rintro e w1 ⟨rfl, hb1⟩
  have hBX := (Block.new w [.int .i64 k, .bool b, .int .i64 i, .string s, .slice la l.length lc, .slice ka ks.length kc] 33).below hb1 (by simp)
  have x0 := hBX.cell (i := 0) rfl
  have x1 := hBX.cell (i := 1) rfl
  have x2 := hBX.cell (i := 2) rfl
  have x3 := hBX.cell (i := 3) rfl
  have x4 := hBX.cell (i := 4) rfl
  have x5 := hBX.cell (i := 5) rfl
  have HB1 := Lib.hid (hb1.mono (B' := w.heap.size + 1) (by simp))
  clear hb1 hBX)
 go_wp2_with fail
 go_loopw [2, 9] (fun pv iv wr => ∃ (j q : Nat), iv = .int .i64 j ∧ pv = .int .i64 q ∧ j ≤ l.length ∧ q ≤ 4096 ∧ Below (w.heap.size + 1) (w.alloc (.cells #[.int .i64 k, .bool b, .int .i64 i, .string s, .slice la l.length lc, .slice ka ks.length kc] 33)) wr ∧ Hid (R = mayR (mayVs (l.drop j) (d - 1) q))) (fun _ iv _ => l.length - (intOf iv).toNat)
 first
 | (guard_hyp z15d; case atStart => exact ⟨0, p + 1, by go_num, by go_num, Nat.zero_le _, by omega, HBR.out, Lib.hid (by rw [← HR.out, mayV_go HD.out]; rfl)⟩)
 | (case atStart => exact ⟨0, p + 1, by go_num, by go_num, Nat.zero_le _, by omega, HB1.out, Lib.hid (by rw [← HR.out, mayV_go HD.out]; rfl)⟩)
 case round =>
  obtain ⟨j, q, rfl, rfl, hj, hq, hbr, hm⟩ := hrel
  have hBR := (Block.new w [.int .i64 k, .bool b, .int .i64 i, .string s, .slice la l.length lc, .slice ka ks.length kc] 33).below hbr (by simp)
  have y4 := hBR.cell (i := 4) rfl
  clear hBR
  have HBR := Lib.hid hbr
  clear hbr
  by_cases hlt : j < l.length
  ·have z91b := trivial
   exact Sq91
  ·have hlt' : ¬ (j : Int) < l.length := by omega
   go_wp2_with fail
   go_ret2
   exact ⟨by rw [hm.out, List.drop_of_length_le (by omega)]; rfl, ((Below.refl w.heap.size w).alloc (Nat.le_refl _) _).trans (HBR.out.mono (by omega))⟩) : P := h
theorem Sq91 {P : Prop} (h : P := by
 first
 | (guard_hyp z91b; have hlt' : (j : Int) < l.length := by omega)
 |(
  have hq2 := hqk rfl
  clear hqk)
 obtain ⟨t, ht⟩ := get_some hlt
 obtain ⟨eb, eo, cs, rfl, heb, hce, hVt⟩ := HLs.out.get j t ht
 have hVr : IsV B wr cs t := IsV.below (((Below.refl w.heap.size w).alloc (Nat.le_refl _) _).trans (HBR.out.mono (by omega))) hB t cs hVt
 first
 | (guard_hyp z91a; have HI := Lib.hid (IH.out j t ht cs B wr (d - 1) q hVr (Nat.le_trans hB (Nat.le_trans (by simp) HBR.out.size)) (by omega) (by omega) hq2))
 | (have HI := Lib.hid (IH.out j t ht cs B wr (d - 1) q hVr (Nat.le_trans hB (Nat.le_trans (by simp) HBR.out.size)) (by omega) (by omega) hq))
 have hst := mayVs_step ht (d - 1) q
 first
 | (guard_hyp z91a; have hle := mayV_le t (d - 1) q hq2)
 | (have hle := mayV_le t (d - 1) q hq)
 obtain ⟨k2, b2, i2, s2, l2, ks2⟩ := t
 unfold IsV at hVt
 obtain ⟨la2, lc2, ka2, kc2, rfl, _⟩ := hVt
 have g : ∀ (n : Nat) v, ([.int .i64 k2, .bool b2, .int .i64 i2, .string s2, .slice la2 l2.length lc2, .slice ka2 ks2.length kc2] : List Value)[n]? = some v → wr.cell? ⟨eb, eo + j * 6 + n, none⟩ = some v := fun n v hv => by
  have h1 := hce n v hv
  rw [Nat.zero_add] at h1
  rw [Nat.add_assoc]
  rw [HBR.out.cell (by show eb < w.heap.size + 1; omega)]
  rw [(Below.alloc (Below.refl w.heap.size w) (Nat.le_refl _) (.cells #[.int .i64 k, .bool b, .int .i64 i, .string s, .slice (some ⟨eb, eo, none⟩) l.length lc, .slice ka ks.length kc] 33)).cell (by show eb < w.heap.size; omega)]
  exact h1
 have g0 := g 0 _ rfl
 have g1 := g 1 _ rfl
 have g2 := g 2 _ rfl
 have g3 := g 3 _ rfl
 have g4 := g 4 _ rfl
 have g5 := g 5 _ rfl
 rw [Nat.add_zero] at g0
 clear g hce
 first
 |(
  guard_hyp z91b
  cases hm2 : mayV (.mk k2 b2 i2 s2 l2 ks2) (d - 1) q with
  | mk n ok =>
   rw [hm2] at HI hst hle
   unfold mayR at HI
   dsimp only at HI hst hle
   have HST := Lib.hid hst
   clear hst hm2
   cases ok with
   | false =>
    have hle1 := hle.1
    clear hle
    go_wp2_with fail
    refine HI.out.mono ?_
    rintro e w2 ⟨rfl, hb2⟩
    go_wp2_with fail
    go_ret2
    exact ⟨by rw [hm.out, HST.out]; rfl, ((Below.refl w.heap.size w).alloc (Nat.le_refl _) _).trans ((HBR.out.mono (by omega)).trans (hb2.mono (Nat.le_trans (by simp) HBR.out.size)))⟩
   | true =>
    have hle1 := hle.2 rfl
    clear hle
    go_wp2_with fail
    refine HI.out.mono ?_
    rintro e w2 ⟨rfl, hb2⟩
    have HB2 := Lib.hid hb2
    clear hb2
    go_wp2_with fail
    go_roundw
    case rel => exact ⟨j + 1, n, by go_num, rfl, by omega, hle1, HBR.out.trans (HB2.out.mono (Nat.le_trans (by simp) HBR.out.size)), Lib.hid (by rw [hm.out, HST.out])⟩
    case measure => simp [intOf]; omega)
 |(
  cases hm2 : mayV (.mk k2 b2 i2 s2 l2 ks2) (d - 1) q with
  | mk n ok =>
   rw [hm2] at HI hst hle
   unfold mayR at HI
   dsimp only at HI hst hle
   have HST := Lib.hid hst
   have HLE := Lib.hid hle.2
   have hle1 := hle.1
   clear hst hm2 hle
   go_wp2_with fail
   refine HI.out.mono ?_
   rintro e w2 ⟨rfl, hb2⟩
   have HB2 := Lib.hid hb2
   clear hb2
   go_wp2_with fail
   go_roundw
   case rel => exact ⟨j + 1, n, ok, by go_num, rfl, rfl, by omega, hle1, HLE.out, HBR.out.trans (HB2.out.mono (Nat.le_trans (by simp) HBR.out.size)), Lib.hid (by have h := hm.out; simp at h; rw [h, HST.out]; cases ok <;> simp)⟩
   case measure => simp [intOf]; omega)) : P := h
theorem Sq43 {P : Prop} (h : P := by
 first
 |(
  guard_hyp z43a
  have HN := Lib.hid (NO.out (headOk_no (fun h => by have := (h.2.2.2.2.2.2 K5.out).2; rw [hko] at this; cases this)))
  rw [hko] at HKY
  clear hko
  go_enter Tryz.func148, Tryz.ntmps148)
 |(
  have hnb : ((ks.length : Int) != (l.length : Int)) = true := by simp; omega
  have HN := Lib.hid (NO.out (headOk_no (fun h => hn (h.2.2.2.2.2.2 K5.out).1)))
  first
  | (guard_hyp z43b; go_enter Tryz.func148, Tryz.ntmps148)
  | (go_enter Tryz.func136, Tryz.ntmps136))
 go_wp2_with fail
 refine (HU.out _).mono ?_
 rintro e w1 ⟨rfl, hb1⟩
 have hBX := (Block.new w [.int .i64 k, .bool b, .int .i64 i, .string s, .slice la l.length lc, .slice ka ks.length kc] 33).below hb1 (by simp)
 have x0 := hBX.cell (i := 0) rfl
 have x1 := hBX.cell (i := 1) rfl
 have x2 := hBX.cell (i := 2) rfl
 have x3 := hBX.cell (i := 3) rfl
 have x4 := hBX.cell (i := 4) rfl
 have x5 := hBX.cell (i := 5) rfl
 have HB1 := Lib.hid (hb1.mono (B' := w.heap.size + 1) (by simp))
 first
 | (guard_hyp z43c)
 | (have HKW := Lib.hid (HKY.out w1 (below_step ((Below.refl _ _).alloc (Nat.le_refl _) _) rfl hb1)))
 clear hb1 hBX
 go_wp2_with fail
 first
 |(
  guard_hyp z43a
  refine HKW.out.mono ?_
  rintro e w2 ⟨rfl, rfl⟩
  go_wp2_with fail)
 | skip
 go_ret2
 exact ⟨by rw [HN.out]; rfl, ((Below.refl _ _).alloc (Nat.le_refl _) _).trans (HB1.out.mono (by omega))⟩) : P := h
theorem Sq72 {P : Prop} (h : P := by
 first
 | (guard_hyp z72a; have z2d : decide ((64 : Int) < x.size) = true := by simp; omega)
 | (have z1d : decide ((x.size : Int) < 1) = true := by simp; omega)
 have HN := Lib.hid (NO.out (headOk_no (fun h => by have := (h.2.2.2.2.2.2 K5.out).2; rw [keysOk_no hlt (kOk_no1 HX.out (by omega))] at this; cases this)))
 go_wp2_with fail
 go_quiet (fail)
 go_wp2_with fail
 go_ret2
 exact ⟨by rw [HN.out]; rfl, below_draws (((Below.refl _ _).alloc (Nat.le_refl _) _).trans (HBR.out.mono (by omega))) _⟩) : P := h
set_option maxRecDepth 1000000 in
set_option maxHeartbeats 4000000 in
theorem may_any (t : Vt) : MaySaid t := by
 refine t.down (p := MaySaid) fun k b i s l ks ih cs B w d p hV hB hd0 hd1 hp => ?_
 unfold IsV at hV
 obtain ⟨la, lc, ka, kc, rfl, hk64, hi64, ⟨hlc, hlm⟩, ⟨hkc, hkm⟩, hla, hka, hK, hL⟩ := hV
 simp only [in64] at hk64 hi64
 have IH := Lib.hid ih
 have HK := Lib.hid hK
 have HLs := Lib.hid hL
 clear ih hK hL hla hka
 show Calls Tryz.prog 136 #[.agg #[.int .i64 k, .bool b, .int .i64 i, .string s, .slice la l.length lc, .slice ka ks.length kc], .int .i64 d, .int .i64 p] w _
 obtain ⟨R, hR⟩ := nam (mayR (mayV (.mk k b i s l ks) d p))
 have HR := Lib.hid hR
 rw [hR]
 clear hR
 have NO : Hid (headOk k b i s l.length ks d p = false → R = .tuple #[.int .i64 ((p : Int) + 1), .bool false]) := Lib.hid (fun h => by rw [← HR.out]; exact mayV_no h)
 by_cases c1 : 4096 < p + 1
 ·have q1 : (4096 : Int) < (p : Int) + 1 := by omega
  have HN := Lib.hid (NO.out (headOk_no (fun h => by omega)))
  obtain rfl := HN.out
  go_enter Tryz.func136, Tryz.ntmps136
  go_wp2_with fail
  go_ret2
  exact ⟨rfl, (Below.refl _ _).alloc (Nat.le_refl _) _⟩
 have q1 : ¬ (4096 : Int) < (p : Int) + 1 := by omega
 have q1d : decide ((4096 : Int) < (p : Int) + 1) = false := by simp; omega
 by_cases c2 : d < 1
 ·have HN := Lib.hid (NO.out (headOk_no (fun h => by omega)))
  obtain rfl := HN.out
  go_enter Tryz.func136, Tryz.ntmps136
  go_wp2_with fail
  go_ret2
  exact ⟨rfl, (Below.refl _ _).alloc (Nat.le_refl _) _⟩
 have q2d : decide (d < 1) = false := by simp; omega
 by_cases c3 : k < 0
 ·have HN := Lib.hid (NO.out (headOk_no (fun h => by omega)))
  obtain rfl := HN.out
  go_enter Tryz.func136, Tryz.ntmps136
  go_wp2_with fail
  go_ret2
  exact ⟨rfl, (Below.refl _ _).alloc (Nat.le_refl _) _⟩
 have q3d : decide (k < 0) = false := by simp; omega
 by_cases c4 : 7 < k
 ·have HN := Lib.hid (NO.out (headOk_no (fun h => by omega)))
  obtain rfl := HN.out
  go_enter Tryz.func136, Tryz.ntmps136
  go_wp2_with fail
  go_ret2
  exact ⟨rfl, (Below.refl _ _).alloc (Nat.le_refl _) _⟩
 have q4d : decide (7 < k) = false := by simp; omega
 have HU := Lib.hid (unused_any k b i s la ka l.length lc ks.length kc)
 by_cases c5 : unusedV k b i s l.length ks.length = true
 rotate_left
 ·have c5f : unusedV k b i s l.length ks.length = false := by simpa using c5
  have HN := Lib.hid (NO.out (headOk_no (fun h => c5 h.2.2.2.2.1)))
  rw [c5f] at HU
  clear c5 c5f
  obtain rfl := HN.out
  go_enter Tryz.func136, Tryz.ntmps136
  go_wp2_with fail
  refine (HU.out _).mono ?_
  rintro e w1 ⟨rfl, hb1⟩
  go_wp2_with fail
  go_ret2
  exact ⟨rfl, below_step ((Below.refl _ _).alloc (Nat.le_refl _) _) rfl hb1⟩
 rw [c5] at HU
 have C5 := Lib.hid c5
 clear c5
 have d1 : 1 ≤ d := by omega
 by_cases k6 : k = 6
 ·exact Sq15
 by_cases k7 : k = 7
 ·have z15a := trivial
  exact Sq15
 have k6b : (k == 6) = false := by simp; omega
 have k7b : (k == 7) = false := by simp; omega
 by_cases k5 : k = 5
 rotate_left
 ·have z15c := trivial
  exact Sq15
 have k5b : (k == 5) = true := by simp; omega
 have K5 := Lib.hid k5
 clear k5
 by_cases hn : ks.length = l.length
 rotate_left
 ·have z43c := trivial
  exact Sq43
 have hnb : ((ks.length : Int) != (l.length : Int)) = false := by simp; omega
 have HNL := Lib.hid hn
 clear hn
 go_enter Tryz.func136, Tryz.ntmps136
 go_wp2_with fail
 refine (HU.out _).mono ?_
 rintro e w1 ⟨rfl, hb1⟩
 have hBX := (Block.new w [.int .i64 k, .bool b, .int .i64 i, .string s, .slice la l.length lc, .slice ka ks.length kc] 33).below hb1 (by simp)
 have x0 := hBX.cell (i := 0) rfl
 have x1 := hBX.cell (i := 1) rfl
 have x2 := hBX.cell (i := 2) rfl
 have x3 := hBX.cell (i := 3) rfl
 have x4 := hBX.cell (i := 4) rfl
 have x5 := hBX.cell (i := 5) rfl
 have HB1 := Lib.hid (hb1.mono (B' := w.heap.size + 1) (by simp))
 clear hb1 hBX
 go_wp2_with fail
 go_loopw [8] (fun iv wr => ∃ (j : Nat), iv = .int .i64 j ∧ j ≤ ks.length ∧ Below (w.heap.size + 1) (w.alloc (.cells #[.int .i64 k, .bool b, .int .i64 i, .string s, .slice la l.length lc, .slice ka ks.length kc] 33)) wr ∧ Hid (∀ n, n < j → kOk ks n = true)) (fun iv _ => ks.length - (intOf iv).toNat)
 case atStart => exact ⟨0, by go_num, Nat.zero_le _, HB1.out, Lib.hid (fun n h => by omega)⟩
 case round =>
  obtain ⟨j, rfl, hj, hbr, hm⟩ := hrel
  have hBR := (Block.new w [.int .i64 k, .bool b, .int .i64 i, .string s, .slice la l.length lc, .slice ka ks.length kc] 33).below hbr (by simp)
  have y4 := hBR.cell (i := 4) rfl
  have y5 := hBR.cell (i := 5) rfl
  clear hBR
  have HBR := Lib.hid hbr
  clear hbr
  by_cases hlt : j < ks.length
  ·have hlt' : (j : Int) < ks.length := by omega
   obtain ⟨x, hx⟩ := get_some hlt
   have hKr : StrRow B wr ka ks := HK.out.below (((Below.refl w.heap.size w).alloc (Nat.le_refl _) _).trans (HBR.out.mono (by omega))) hB
   rcases hKr with h0 | ⟨kb, ko, rfl, hkb, hkc'⟩
   ·exfalso; rw [List.map_eq_nil_iff] at h0; rw [h0] at hlt; simp at hlt
   have g : wr.cell? ⟨kb, ko + j, none⟩ = some (.string x) := hkc' j _ (by rw [List.getElem?_map, hx]; rfl)
   have HKC := Lib.hid hkc'
   clear hkc'
   have p0 : (0 : Int) ≤ (j : Int) := by omega
   have HX := Lib.hid hx
   clear hx
   by_cases z1 : x.size < 1
   ·exact Sq72
   have z1d : decide ((x.size : Int) < 1) = false := by simp; omega
   by_cases z2 : 64 < x.size
   ·have z72a := trivial
    exact Sq72
   have z2d : decide ((64 : Int) < x.size) = false := by simp; omega
   by_cases z3 : j = 0
   ·have z3d : decide ((0 : Int) < j) = false := by simp; omega
    have z3n : decide (0 < j) = false := by simp; omega
    have HKJ : Hid (kOk ks j = true) := Lib.hid (kOk_yes HX.out (by omega) (by omega) (.inl z3))
    clear z3
    go_wp2_with fail
    go_quiet (fail)
    go_wp2_with fail
    go_roundw
    case rel => exact ⟨j + 1, by go_num, by omega, below_draws HBR.out _, Lib.hid (fun n hn => by
     by_cases hnj : n = j
     ·rw [hnj]; exact HKJ.out
     ·exact hm.out n (by omega))⟩
    case measure => simp [intOf]; omega
   have z3d : decide ((0 : Int) < j) = true := by simp; omega
   have z3n : decide (0 < j) = true := by simp; omega
   obtain ⟨y, hy⟩ := get_some (l := ks) (j := j - 1) (by omega)
   have g' : wr.cell? ⟨kb, ko + (j - 1), none⟩ = some (.string y) := HKC.out (j - 1) _ (by rw [List.getElem?_map, hy]; rfl)
   have HY := Lib.hid hy
   clear hy
   have u1 : IntKind.i64.wrap ((j : Int) - 1) = (j : Int) - 1 := IntWalk.i64_in _ (by omega)
   have u2 : (0 : Int) ≤ (j : Int) - 1 := by omega
   have u3 : (j : Int) - 1 < ks.length := by omega
   have u4 : ((j : Int) - 1).toNat = j - 1 := by omega
   have u5 : (1 : Int) ≤ j := by omega
   cases hbl : Op.bytesLess x.toList y.toList with
   | true =>
    have HN := Lib.hid (NO.out (headOk_no (fun h => by have := (h.2.2.2.2.2.2 K5.out).2; rw [keysOk_no hlt (kOk_no2 HX.out (by omega) HY.out (by unfold strLe; rw [hbl]; rfl))] at this; cases this)))
    go_wp2_with fail
    go_quiet (fail)
    go_wp2_with fail
    go_ret2
    exact ⟨by rw [HN.out]; rfl, below_draws (((Below.refl _ _).alloc (Nat.le_refl _) _).trans (HBR.out.mono (by omega))) _⟩
   | false =>
    cases hbe : (x.toList == y.toList) with
    | true =>
     have HN := Lib.hid (NO.out (headOk_no (fun h => by have := (h.2.2.2.2.2.2 K5.out).2; rw [keysOk_no hlt (kOk_no2 HX.out (by omega) HY.out (by unfold strLe; rw [hbl, hbe]; rfl))] at this; cases this)))
     go_wp2_with fail
     go_quiet (fail)
     go_wp2_with fail
     go_ret2
     exact ⟨by rw [HN.out]; rfl, below_draws (((Below.refl _ _).alloc (Nat.le_refl _) _).trans (HBR.out.mono (by omega))) _⟩
    | false =>
     have HKJ : Hid (kOk ks j = true) := Lib.hid (kOk_yes HX.out (by omega) (by omega) (.inr ⟨y, HY.out, by unfold strLe; rw [hbl, hbe]; rfl⟩))
     go_wp2_with fail
     go_quiet (fail)
     go_wp2_with fail
     go_roundw
     case rel => exact ⟨j + 1, by go_num, by omega, below_draws HBR.out _, Lib.hid (fun n hn => by
      by_cases hnj : n = j
      ·rw [hnj]; exact HKJ.out
      ·exact hm.out n (by omega))⟩
     case measure => simp [intOf]; omega
  ·have z15d := trivial
   exact Sq15
theorem May_any (t : Vt) (cs : List Value) (B : Nat) (w : World) (hV : IsV B w cs t) (hB : B ≤ w.heap.size) :
    Calls Tryz.prog 102 #[.agg cs.toArray] w fun e w' => e = .returned (.bool (mayB t)) ∧ Below w.heap.size w w' := by
 have HM := Lib.hid (fun w' (hb : Below w.heap.size w w') => may_any t cs B w' 32 0 (IsV.below hb hB t cs hV) (Nat.le_trans hB hb.size) (by omega) (by omega) (by omega))
 obtain ⟨k, b, i, s, l, ks⟩ := t
 unfold IsV at hV
 obtain ⟨la, lc, ka, kc, rfl, -, -, -, -, -, -, -, -⟩ := hV
 unfold mayB
 cases hm : mayV (.mk k b i s l ks) 32 0 with
 | mk n ok =>
  rw [hm] at HM
  clear hm
  unfold mayR at HM
  dsimp only at HM
  show Calls Tryz.prog 102 #[.agg #[.int .i64 k, .bool b, .int .i64 i, .string s, .slice la l.length lc, .slice ka ks.length kc]] w _
  have HB0 := Lib.hid ((Below.refl w.heap.size w).alloc (Nat.le_refl _) (.cells #[.int .i64 k, .bool b, .int .i64 i, .string s, .slice la l.length lc, .slice ka ks.length kc] 33))
  go_enter Tryz.func102, Tryz.ntmps102
  go_wp2_with fail
  refine (HM.out _ HB0.out).mono ?_
  rintro e w1 ⟨rfl, hb1⟩
  go_wp2_with fail
  go_ret
  exact ⟨rfl, below_step HB0.out rfl hb1⟩
end Go.Proofs.YtndhpdclpgemfaaGreat

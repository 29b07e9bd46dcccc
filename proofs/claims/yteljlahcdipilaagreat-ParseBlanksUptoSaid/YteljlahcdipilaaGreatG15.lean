/- Parts X10 of this seat (pruned, scripts that are alike kept once as default arguments: q1, q2, ..). Conditions: each says its own. -/
import Derived.Test.YteljlahcdipilaaGreatG14
set_option linter.unusedSimpArgs false
set_option linter.unusedVariables false
set_option maxRecDepth 1000000
set_option maxHeartbeats 64000000
namespace Go.Proofs.YteljlahcdipilaaGreat
open Go.RowKit Go.ChangeMaps Go.Maps
noncomputable def yq {P : Program} {k : TypeId} (hk : P.underlying k = some .string) : gm P k ByteArray where
  val := .string
  lit s := .string s.data.toList
  ok s := s.size <= maxLen
  law := string_keyed hk
  key _ h := WideMaps.keyOf_string_mk hk h
  inj x y h := by
    injection h with h
    cases x; cases y;simp only [Array.toList_inj] at h;rw [h]
  inv v kl h := by
    obtain ⟨s, h1, h2, h3⟩ := WideMaps.string_of_keyOf hk h;exact ⟨s, h3, h1, h2⟩
noncomputable def KS : gm Tryz.prog 9 ByteArray := yq (by kernel_rfl)
theorem Tryz.mapSI : Tryz.prog.underlying 217 = some (.map 9 3) := by kernel_rfl
theorem vF {s : ByteArray} {l : List UInt8} : (s.toList == l) = decide (s = ⟨l.toArray⟩) := by
 by_cases h : s = ⟨l.toArray⟩
 ·subst h;rw [toList_data];simp
 ·rw [decide_eq_false h];simp only [beq_eq_false_iff_ne, ne_eq];intro h2;apply h;rw [toList_data] at h2;cases s with
  | mk d => simp at h2; subst h2; simp
def vG : ByteArray -> Option Value := fun _ => none
def vH : ByteArray -> Option Value := fun y => if y = ⟨#[79, 82]⟩ then some (.int .i64 1) else vG y
def vI : ByteArray -> Option Value := fun y => if y = ⟨#[88, 79, 82]⟩ then some (.int .i64 2) else vH y
def vJ : ByteArray -> Option Value := fun y => if y = ⟨#[65, 78, 68]⟩ then some (.int .i64 3) else vI y
def vK : ByteArray -> Option Value := fun y => if y = ⟨#[61]⟩ then some (.int .i64 5) else vJ y
def vL : ByteArray -> Option Value := fun y => if y = ⟨#[60, 62]⟩ then some (.int .i64 5) else vK y
def vM : ByteArray -> Option Value := fun y => if y = ⟨#[60]⟩ then some (.int .i64 5) else vL y
def vN : ByteArray -> Option Value := fun y => if y = ⟨#[60, 61]⟩ then some (.int .i64 5) else vM y
def vO : ByteArray -> Option Value := fun y => if y = ⟨#[62]⟩ then some (.int .i64 5) else vN y
def vP : ByteArray -> Option Value := fun y => if y = ⟨#[62, 61]⟩ then some (.int .i64 5) else vO y
def qO : ByteArray -> Option Value := fun y => if y = ⟨#[73, 78]⟩ then some (.int .i64 5) else vP y
def qP : ByteArray -> Option Value := fun y => if y = ⟨#[43]⟩ then some (.int .i64 6) else qO y
def qQ : ByteArray -> Option Value := fun y => if y = ⟨#[45]⟩ then some (.int .i64 6) else qP y
def qR : ByteArray -> Option Value := fun y => if y = ⟨#[42]⟩ then some (.int .i64 7) else qQ y
def qS : ByteArray -> Option Value := fun y => if y = ⟨#[47]⟩ then some (.int .i64 7) else qR y
def qT : ByteArray -> Option Value := fun y => if y = ⟨#[37]⟩ then some (.int .i64 7) else qS y
theorem yr (s : ByteArray) : (qT s).getD (.int .i64 0) = .int .i64 (eQ s) := by
 unfold eQ;simp only [vF, decide_eq_true_eq, vG, vH, vI, vJ, vK, vL, vM, vN, vO, vP, qO, qP, qQ, qR, qS, qT]
 by_cases h0 : s = ⟨#[79, 82]⟩
 ·rw [h0]; rfl
 by_cases h1 : s = ⟨#[88, 79, 82]⟩
 ·rw [h1]; rfl
 by_cases h2 : s = ⟨#[65, 78, 68]⟩
 ·rw [h2]; rfl
 by_cases h3 : s = ⟨#[61]⟩
 ·rw [h3]; rfl
 by_cases h4 : s = ⟨#[60, 62]⟩
 ·rw [h4]; rfl
 by_cases h5 : s = ⟨#[60]⟩
 ·rw [h5]; rfl
 by_cases h6 : s = ⟨#[60, 61]⟩
 ·rw [h6]; rfl
 by_cases h7 : s = ⟨#[62]⟩
 ·rw [h7]; rfl
 by_cases h8 : s = ⟨#[62, 61]⟩
 ·rw [h8]; rfl
 by_cases h9 : s = ⟨#[73, 78]⟩
 ·rw [h9]; rfl
 by_cases h10 : s = ⟨#[43]⟩
 ·rw [h10]; rfl
 by_cases h11 : s = ⟨#[45]⟩
 ·rw [h11]; rfl
 by_cases h12 : s = ⟨#[42]⟩
 ·rw [h12]; rfl
 by_cases h13 : s = ⟨#[47]⟩
 ·rw [h13]; rfl
 by_cases h14 : s = ⟨#[37]⟩
 ·rw [h14]; rfl
 simp only [h0, h1, h2, h3, h4, h5, h6, h7, h8, h9, h10, h11, h12, h13, h14, if_false, ↓reduceIte, Option.getD]
theorem qU (s : ByteArray) (w : World) (hs : s.size <= 1099511627776) : Calls Tryz.prog 168 #[.string s] w fun e w' => e = .returned (.int .i64 (eQ s)) /\ Below w.heap.size w w' := by
 have hmm := @run_makeMap Tryz.prog;obtain ⟨W0, hW0⟩ := nam (w.alloc (.map #[] 0));obtain ⟨mb, hmb⟩ := nam w.heap.size;have m0 : bF W0 KS mb 0 vG := by rw [<- hW0, <- hmb]; exact bF.made w KS
 have hb0 : Below w.heap.size w W0 := by rw [<- hW0]; exact (Below.refl _ _).alloc (Nat.le_refl _) _
 obtain ⟨W1, r1, m1, g1, z1⟩ := m0.update Tryz.mapSI (by unfold maxLen; omega) (x := ⟨#[79, 82]⟩) (show ByteArray.size _ <= maxLen by unfold maxLen; decide) (.int .i64 1);replace m1 : bF W1 KS mb 1 vH := m1;replace r1 : (Instr.mapUpdate 217 (.map (some mb)) (.string ⟨#[79, 82]⟩) (.int .i64 1)).run Tryz.prog W0 = .ok () W1 := r1;have hb1 := hb0.grown g1 (by have := hb0.size; omega) (fun k hk => by rw [<- Option.some.inj hk, <- hmb]; exact Nat.le_refl _);obtain ⟨W2, r2, m2, g2, z2⟩ := m1.update Tryz.mapSI (by unfold maxLen; omega) (x := ⟨#[88, 79, 82]⟩) (show ByteArray.size _ <= maxLen by unfold maxLen; decide) (.int .i64 2);replace m2 : bF W2 KS mb 2 vI := m2;replace r2 : (Instr.mapUpdate 217 (.map (some mb)) (.string ⟨#[88, 79, 82]⟩) (.int .i64 2)).run Tryz.prog W1 = .ok () W2 := r2;have hb2 := hb1.grown g2 (by have := hb1.size; omega) (fun k hk => by rw [<- Option.some.inj hk, <- hmb]; exact Nat.le_refl _);obtain ⟨W3, r3, m3, g3, z3⟩ := m2.update Tryz.mapSI (by unfold maxLen; omega) (x := ⟨#[65, 78, 68]⟩) (show ByteArray.size _ <= maxLen by unfold maxLen; decide) (.int .i64 3);replace m3 : bF W3 KS mb 3 vJ := m3;replace r3 : (Instr.mapUpdate 217 (.map (some mb)) (.string ⟨#[65, 78, 68]⟩) (.int .i64 3)).run Tryz.prog W2 = .ok () W3 := r3;have hb3 := hb2.grown g3 (by have := hb2.size; omega) (fun k hk => by rw [<- Option.some.inj hk, <- hmb]; exact Nat.le_refl _);obtain ⟨W4, r4, m4, g4, z4⟩ := m3.update Tryz.mapSI (by unfold maxLen; omega) (x := ⟨#[61]⟩) (show ByteArray.size _ <= maxLen by unfold maxLen; decide) (.int .i64 5);replace m4 : bF W4 KS mb 4 vK := m4;replace r4 : (Instr.mapUpdate 217 (.map (some mb)) (.string ⟨#[61]⟩) (.int .i64 5)).run Tryz.prog W3 = .ok () W4 := r4;have hb4 := hb3.grown g4 (by have := hb3.size; omega) (fun k hk => by rw [<- Option.some.inj hk, <- hmb]; exact Nat.le_refl _);obtain ⟨W5, r5, m5, g5, z5⟩ := m4.update Tryz.mapSI (by unfold maxLen; omega) (x := ⟨#[60, 62]⟩) (show ByteArray.size _ <= maxLen by unfold maxLen; decide) (.int .i64 5);replace m5 : bF W5 KS mb 5 vL := m5;replace r5 : (Instr.mapUpdate 217 (.map (some mb)) (.string ⟨#[60, 62]⟩) (.int .i64 5)).run Tryz.prog W4 = .ok () W5 := r5;have hb5 := hb4.grown g5 (by have := hb4.size; omega) (fun k hk => by rw [<- Option.some.inj hk, <- hmb]; exact Nat.le_refl _);obtain ⟨W6, r6, m6, g6, z6⟩ := m5.update Tryz.mapSI (by unfold maxLen; omega) (x := ⟨#[60]⟩) (show ByteArray.size _ <= maxLen by unfold maxLen; decide) (.int .i64 5);replace m6 : bF W6 KS mb 6 vM := m6;replace r6 : (Instr.mapUpdate 217 (.map (some mb)) (.string ⟨#[60]⟩) (.int .i64 5)).run Tryz.prog W5 = .ok () W6 := r6;have hb6 := hb5.grown g6 (by have := hb5.size; omega) (fun k hk => by rw [<- Option.some.inj hk, <- hmb]; exact Nat.le_refl _);obtain ⟨W7, r7, m7, g7, z7⟩ := m6.update Tryz.mapSI (by unfold maxLen; omega) (x := ⟨#[60, 61]⟩) (show ByteArray.size _ <= maxLen by unfold maxLen; decide) (.int .i64 5);replace m7 : bF W7 KS mb 7 vN := m7;replace r7 : (Instr.mapUpdate 217 (.map (some mb)) (.string ⟨#[60, 61]⟩) (.int .i64 5)).run Tryz.prog W6 = .ok () W7 := r7;have hb7 := hb6.grown g7 (by have := hb6.size; omega) (fun k hk => by rw [<- Option.some.inj hk, <- hmb]; exact Nat.le_refl _);obtain ⟨W8, r8, m8, g8, z8⟩ := m7.update Tryz.mapSI (by unfold maxLen; omega) (x := ⟨#[62]⟩) (show ByteArray.size _ <= maxLen by unfold maxLen; decide) (.int .i64 5);replace m8 : bF W8 KS mb 8 vO := m8;replace r8 : (Instr.mapUpdate 217 (.map (some mb)) (.string ⟨#[62]⟩) (.int .i64 5)).run Tryz.prog W7 = .ok () W8 := r8;have hb8 := hb7.grown g8 (by have := hb7.size; omega) (fun k hk => by rw [<- Option.some.inj hk, <- hmb]; exact Nat.le_refl _);obtain ⟨W9, r9, m9, g9, z9⟩ := m8.update Tryz.mapSI (by unfold maxLen; omega) (x := ⟨#[62, 61]⟩) (show ByteArray.size _ <= maxLen by unfold maxLen; decide) (.int .i64 5);replace m9 : bF W9 KS mb 9 vP := m9;replace r9 : (Instr.mapUpdate 217 (.map (some mb)) (.string ⟨#[62, 61]⟩) (.int .i64 5)).run Tryz.prog W8 = .ok () W9 := r9;have hb9 := hb8.grown g9 (by have := hb8.size; omega) (fun k hk => by rw [<- Option.some.inj hk, <- hmb]; exact Nat.le_refl _);obtain ⟨W10, r10, m10, g10, z10⟩ := m9.update Tryz.mapSI (by unfold maxLen; omega) (x := ⟨#[73, 78]⟩) (show ByteArray.size _ <= maxLen by unfold maxLen; decide) (.int .i64 5);replace m10 : bF W10 KS mb 10 qO := m10;replace r10 : (Instr.mapUpdate 217 (.map (some mb)) (.string ⟨#[73, 78]⟩) (.int .i64 5)).run Tryz.prog W9 = .ok () W10 := r10;have hb10 := hb9.grown g10 (by have := hb9.size; omega) (fun k hk => by rw [<- Option.some.inj hk, <- hmb]; exact Nat.le_refl _);obtain ⟨W11, r11, m11, g11, z11⟩ := m10.update Tryz.mapSI (by unfold maxLen; omega) (x := ⟨#[43]⟩) (show ByteArray.size _ <= maxLen by unfold maxLen; decide) (.int .i64 6);replace m11 : bF W11 KS mb 11 qP := m11;replace r11 : (Instr.mapUpdate 217 (.map (some mb)) (.string ⟨#[43]⟩) (.int .i64 6)).run Tryz.prog W10 = .ok () W11 := r11;have hb11 := hb10.grown g11 (by have := hb10.size; omega) (fun k hk => by rw [<- Option.some.inj hk, <- hmb]; exact Nat.le_refl _);obtain ⟨W12, r12, m12, g12, z12⟩ := m11.update Tryz.mapSI (by unfold maxLen; omega) (x := ⟨#[45]⟩) (show ByteArray.size _ <= maxLen by unfold maxLen; decide) (.int .i64 6);replace m12 : bF W12 KS mb 12 qQ := m12;replace r12 : (Instr.mapUpdate 217 (.map (some mb)) (.string ⟨#[45]⟩) (.int .i64 6)).run Tryz.prog W11 = .ok () W12 := r12;have hb12 := hb11.grown g12 (by have := hb11.size; omega) (fun k hk => by rw [<- Option.some.inj hk, <- hmb]; exact Nat.le_refl _);obtain ⟨W13, r13, m13, g13, z13⟩ := m12.update Tryz.mapSI (by unfold maxLen; omega) (x := ⟨#[42]⟩) (show ByteArray.size _ <= maxLen by unfold maxLen; decide) (.int .i64 7);replace m13 : bF W13 KS mb 13 qR := m13;replace r13 : (Instr.mapUpdate 217 (.map (some mb)) (.string ⟨#[42]⟩) (.int .i64 7)).run Tryz.prog W12 = .ok () W13 := r13;have hb13 := hb12.grown g13 (by have := hb12.size; omega) (fun k hk => by rw [<- Option.some.inj hk, <- hmb]; exact Nat.le_refl _);obtain ⟨W14, r14, m14, g14, z14⟩ := m13.update Tryz.mapSI (by unfold maxLen; omega) (x := ⟨#[47]⟩) (show ByteArray.size _ <= maxLen by unfold maxLen; decide) (.int .i64 7);replace m14 : bF W14 KS mb 14 qS := m14;replace r14 : (Instr.mapUpdate 217 (.map (some mb)) (.string ⟨#[47]⟩) (.int .i64 7)).run Tryz.prog W13 = .ok () W14 := r14;have hb14 := hb13.grown g14 (by have := hb13.size; omega) (fun k hk => by rw [<- Option.some.inj hk, <- hmb]; exact Nat.le_refl _);obtain ⟨W15, r15, m15, g15, z15⟩ := m14.update Tryz.mapSI (by unfold maxLen; omega) (x := ⟨#[37]⟩) (show ByteArray.size _ <= maxLen by unfold maxLen; decide) (.int .i64 7);replace m15 : bF W15 KS mb 15 qT := m15;replace r15 : (Instr.mapUpdate 217 (.map (some mb)) (.string ⟨#[37]⟩) (.int .i64 7)).run Tryz.prog W14 = .ok () W15 := r15;have hb15 := hb14.grown g15 (by have := hb14.size; omega) (fun k hk => by rw [<- Option.some.inj hk, <- hmb]; exact Nat.le_refl _);have hz : (zeroValue 3).run Tryz.prog W15 = .ok (.int .i64 0) W15 := by kernel_rfl
 have hl := m15.lookup Tryz.mapSI hz (x := s) (show s.size <= maxLen by unfold maxLen; omega);rw [yr s] at hl;replace hl : (Instr.lookup 217 (.map (some mb)) (.string s) false).run Tryz.prog W15 = .ok (.int .i64 (eQ s)) W15 := hl;rw [<- hW0] at r1;have HB := aa hb15;clear m0 hW0 m1 g1 z1 hb1 m2 g2 z2 hb2 m3 g3 z3 hb3 m4 g4 z4 hb4 m5 g5 z5 hb5 m6 g6 z6 hb6 m7 g7 z7 hb7 m8 g8 z8 hb8 m9 g9 z9 hb9 m10 g10 z10 hb10 m11 g11 z11 hb11 m12 g12 z12 hb12 m13 g13 z13 hb13 m14 g14 z14 hb14 m15 g15 z15 hb15 hb0 hz hs;go_enter Tryz.func168, Tryz.ntmps168;go_wp2_with fail;go_ret;exact ⟨by rfl, HB.out⟩
theorem pg (s : ByteArray) (w : World) : Calls Tryz.prog 169 #[.string s] w fun e w' => e = .returned (.bool (eR s)) /\ w = w' := by
 obtain ⟨b0, h0⟩ : ∃ b, (s.toList == [99, 111, 117, 110, 116]) = b := ⟨_, rfl⟩;obtain ⟨b1, h1⟩ : ∃ b, (s.toList == [115, 117, 109]) = b := ⟨_, rfl⟩;obtain ⟨b2, h2⟩ : ∃ b, (s.toList == [109, 105, 110]) = b := ⟨_, rfl⟩;obtain ⟨b3, h3⟩ : ∃ b, (s.toList == [109, 97, 120]) = b := ⟨_, rfl⟩;obtain ⟨b4, h4⟩ : ∃ b, (s.toList == [99, 111, 108, 108, 101, 99, 116]) = b := ⟨_, rfl⟩;cases b0 with
 | true =>
  have hq : eR s = true := by simp only [eR, h0, Bool.true_or, Bool.or_true, Bool.false_or, Bool.or_false]
  rw [hq];clear hq;go_enter Tryz.func169, Tryz.ntmps169;go_wp2_with fail;go_ret;exact ⟨rfl, rfl⟩
 | false =>
  cases b1 with
  | true =>
   have hq : eR s = true := by simp only [eR, h0, h1, Bool.true_or, Bool.or_true, Bool.false_or, Bool.or_false]
   rw [hq];clear hq;go_enter Tryz.func169, Tryz.ntmps169;go_wp2_with fail;go_ret;exact ⟨rfl, rfl⟩
  | false =>
   cases b2 with
   | true =>
    have hq : eR s = true := by simp only [eR, h0, h1, h2, Bool.true_or, Bool.or_true, Bool.false_or, Bool.or_false]
    rw [hq];clear hq;go_enter Tryz.func169, Tryz.ntmps169;go_wp2_with fail;go_ret;exact ⟨rfl, rfl⟩
   | false =>
    cases b3 with
    | true =>
     have hq : eR s = true := by simp only [eR, h0, h1, h2, h3, Bool.true_or, Bool.or_true, Bool.false_or, Bool.or_false]
     rw [hq];clear hq;go_enter Tryz.func169, Tryz.ntmps169;go_wp2_with fail;go_ret;exact ⟨rfl, rfl⟩
    | false =>
     cases b4 with
     | true =>
      have hq : eR s = true := by simp only [eR, h0, h1, h2, h3, h4, Bool.true_or, Bool.or_true, Bool.false_or, Bool.or_false]
      rw [hq];clear hq;go_enter Tryz.func169, Tryz.ntmps169;go_wp2_with fail;go_ret;exact ⟨rfl, rfl⟩
     | false =>
      have hq : eR s = false := by simp only [eR, h0, h1, h2, h3, h4, Bool.true_or, Bool.or_true, Bool.false_or, Bool.or_false]
      rw [hq];clear hq;go_enter Tryz.func169, Tryz.ntmps169;go_wp2_with fail;go_ret;exact ⟨rfl, rfl⟩
theorem vQ {s : ByteArray} {c : Bool} (h : (s.toList == []) = c) (n : Nat) (hn : s.size = n) : ci s = (!c && decide (n <= 64)) := by
 rw [vF] at h;unfold ci;rw [hn, <- h]
 by_cases h0 : s = ⟨#[]⟩
 ·subst h0;have : n = 0 := hn.symm;subst this;rfl
 ·have : 1 <= n := by
   rcases Nat.eq_zero_or_pos n with h1 | h1
   ·exact absurd (ByteArray.size_eq_zero_iff.1 (hn.trans h1)) h0
   ·exact h1
  rw [decide_eq_true this];have h1 : decide (s = ⟨[].toArray⟩) = false := decide_eq_false h0;rw [h1]; rfl
theorem ft (s : ByteArray) (w : World) (hs : s.size <= 1099511627776) : Calls Tryz.prog 155 #[.string s] w fun e w' => e = .returned (.bool (ci s)) /\ w = w' := by
 obtain ⟨n, hn⟩ := nam s.size;obtain ⟨c, hc⟩ := nam ((s.toList == []));rw [vQ hc n hn];have HN := aa hn;rw [hn] at hs;obtain ⟨q, hq⟩ := nam (decide (n <= 64));have hq2 : decide ((n : Int) <= 64) = q := by rw [<- hq]; congr 1; simp; omega
 rw [hq];clear hq;cases c <;> cases q <;>
 · go_enter Tryz.func155, Tryz.ntmps155
   go_wp2_with fail;go_ret;exact ⟨by rfl, rfl⟩
end Go.Proofs.YteljlahcdipilaaGreat

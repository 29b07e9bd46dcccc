/- Parts L19, L20 of this seat (pruned, scripts that are alike kept once as default arguments: q1, q2, ..). Conditions: each says its own. -/
import Derived.StillTailTactics
import Derived.Test.YteljlahcdipilaaGreatG11
set_option linter.unusedSimpArgs false
set_option linter.unusedVariables false
set_option maxRecDepth 1000000
set_option maxHeartbeats 64000000
namespace Go.Proofs.YteljlahcdipilaaGreat
open Go.RowKit Go.Shelf
theorem cN {P : Program} {f : FuncId} {args : Array Value} {w : World} {a n : Nat} {v : Value}
    (h : Calls P f args (w.drewN (a + n)) fun e w' => e = .returned v /\ w' = w.drewN (a + n)) :
    Calls P f args (w.drewN (a + n)) fun e w'' => e = .returned v /\ ∃ m, w'' = w.drewN (a + m) :=
  h.mono fun _ _ ⟨he, hm⟩ => ⟨he, n, hm⟩
theorem dG {P : Program} {id : Nat} {Q : Exit -> Act -> World -> Prop} {a : Act} {w : World} {l : List Oper} (n : Nat) (hm : P.follows .mixedOrders = true) (hB : Region.lexTailB .any l.toArray n = true)
    (h : ∀ w2, Below w.heap.size w w2 /\ w2.heap = w.heap -> wpStill P l.toArray w2 (fun a' => wpList P l.toArray Q (l.drop n) a' w2) (l.take n) a) : (Code.region id l.toArray true).wp P Q a w :=
  wp_region_still_tail n hm hB (h w.drew ⟨(Below.refl _ _).drew, rfl⟩)
theorem qI : ∀ c : Fin 256, decide (0 <= Lib.indexByte kA.data.toList (UInt8.ofNat c.val)) = decide ([UInt8.ofNat c.val] ∈ ej) := by decide +kernel
theorem tF (c : UInt8) : decide (0 <= Lib.indexByte kA.data.toList c) = decide ([c] ∈ ej) := by
 have := qI ⟨c.toNat, c.toNat_lt⟩;rw [UInt8.ofNat_toNat] at this;exact this
theorem tG (s : ByteArray) (p : Nat) (hp : p < s.size) (w : World) :
    Calls Tryz.prog 43 #[.string kA, .string (s.extract p (p + 1))] w fun e w' => e = .returned (.bool (decide ((s.data.toList.drop p).take 1 ∈ ej))) /\ w' = w := by
 have hx : s.extract p (p + 1) = ⟨#[s[p]]⟩ := by
  rw [cY s p 1 (by omega), List.drop_eq_getElem_cons (by simpa using hp)];rfl
 have hd : (s.data.toList.drop p).take 1 = [s[p]] := by
  rw [List.drop_eq_getElem_cons (by simpa using hp)];rfl
 rw [hx, hd];refine (strings_Contains_one kA s[p] w).mono ?_;rintro e w' ⟨rfl, rfl⟩;rw [tF];exact ⟨rfl, rfl⟩
theorem jx : ∀ l ∈ fw, l.take 1 ∈ ej := by decide
theorem Sq225388 {P : Prop} (h : P := by
 have hr : R = .tok ⟨5, (s.data.toList.drop p).take 2, 0⟩ 2 := by
  first
  | (guard_hyp z225388a; have hm : (s.data.toList.drop p).take 2 ∈ fw := by rw [<- H2.out, <- Lib.toList_data, c3]; decide)
  | (guard_hyp z225388b; have hm : (s.data.toList.drop p).take 2 ∈ fw := by rw [<- H2.out, <- Lib.toList_data, c2]; decide)
  | (have hm : (s.data.toList.drop p).take 2 ∈ fw := by rw [<- H2.out, <- Lib.toList_data, c1]; decide)
  rw [HRS.out]; unfold dj; rw [if_pos hm, if_neg (fun e => by have := ey _ hm; rw [e] at this; cases this), ey _ hm]
 have HRR := aa hr
 first
 |(
  guard_hyp z225388a
  have HM1 : Hid (decide ((s.data.toList.drop p).take 1 ∈ ej) = true) := aa (decide_eq_true (by
   have := jx ((s.data.toList.drop p).take 2) (by rw [<- H2.out, <- Lib.toList_data, c3]; decide);rw [List.take_take] at this;exact this)))
 |(
  guard_hyp z225388b
  have HM1 : Hid (decide ((s.data.toList.drop p).take 1 ∈ ej) = true) := aa (decide_eq_true (by
   have := jx ((s.data.toList.drop p).take 2) (by rw [<- H2.out, <- Lib.toList_data, c2]; decide);rw [List.take_take] at this;exact this)))
 |(
  have HM1 : Hid (decide ((s.data.toList.drop p).take 1 ∈ ej) = true) := aa (decide_eq_true (by
   have := jx ((s.data.toList.drop p).take 2) (by rw [<- H2.out, <- Lib.toList_data, c1]; decide);rw [List.take_take] at this;exact this)))
 rw [HM1.out] at HC
 first
 |(
  guard_hyp z225388a
  have b1 : ((s.extract p (p + 2)).toList == [60, 61]) = false := by rw [c3]; rfl
  have b2 : ((s.extract p (p + 2)).toList == [62, 61]) = false := by rw [c3]; rfl
  have b3 : ((s.extract p (p + 2)).toList == [60, 62]) = true := by rw [c3]; rfl
  clear hr c1 c2 c3)
 |(
  guard_hyp z225388b
  have b1 : ((s.extract p (p + 2)).toList == [60, 61]) = false := by rw [c2]; rfl
  have b2 : ((s.extract p (p + 2)).toList == [62, 61]) = true := by rw [c2]; rfl
  have b3 : ((s.extract p (p + 2)).toList == [60, 62]) = false := by rw [c2]; rfl
  clear hr c1 c2)
 |(
  have b1 : ((s.extract p (p + 2)).toList == [60, 61]) = true := by rw [c1]; rfl
  have b2 : ((s.extract p (p + 2)).toList == [62, 61]) = false := by rw [c1]; rfl
  have b3 : ((s.extract p (p + 2)).toList == [60, 62]) = false := by rw [c1]; rfl
  clear hr c1)
 go_enter Tryz.func22, Tryz.ntmps22;go_wp2_with fail
 go_quiet (fail)
 go_wp2_with fail
 go_quiet (fail)
 go_wp2_with fail
 go_quiet ((go_at_call 43; exact cN (HC.out _)))
 go_wp2_with fail;refine dG 18 (by kernel_rfl) (by kernel_rfl) ?_;rintro w2 ⟨hb2, hh2⟩;have HB2 : Hid (Below w.heap.size w w2) := aa ⟨hb2.os, hb2.tape, hb2.output, hb2.size, hb2.block⟩;have HS2 := aa (HS.out.below HB2.out);have d0 := HS2.out.2.1.cell (i := 0) rfl;have d1 := HS2.out.2.1.cell (i := 1) rfl;clear hb2 hh2 c0 c1;simp only [List.take_succ_cons, List.take_zero, List.drop_succ_cons, List.drop_zero]
 repeat still_step
 refine wpStill_nil ?_;clear w1' w2';go_wp2_with fail;refine (HPUT2.out w2 HS2.out).mono ?_;rintro e w3 hp3;have HP3 := aa (dB.trans (di.of_below HB2.out) hp3);unfold dB at hp3
 split at hp3
 ·obtain ⟨rfl, _⟩ := hp3;go_wp2_with fail;go_ret;rw [HRR.out]; exact HP3.out
 ·obtain ⟨rfl, _⟩ := hp3;go_wp2_with fail;go_ret;rw [HRR.out]; exact HP3.out) : P := h
theorem Sq552280 {P : Prop} (h : P := by
 have HRR : Hid (R = .tok ⟨5, (s.data.toList.drop p).take 1, 0⟩ 1) := aa (by
  rw [HRS.out]; unfold dj; rw [if_neg NT.out, if_pos (of_decide_eq_true hm), if_neg (fun e => by have := HT1.out; rw [e] at this; cases this), HT1.out])
 rw [hm] at HC;clear hm;go_enter Tryz.func22, Tryz.ntmps22;go_wp2_with fail
 go_quiet (fail)
 go_wp2_with fail
 first
 |(
  guard_hyp z552280a
  go_quiet (fail)
  go_wp2_with fail)
 | skip
 go_quiet ((go_at_call 43; exact cN (HC.out _)))
 go_wp2_with fail;refine dG 18 (by kernel_rfl) (by kernel_rfl) ?_;rintro w2 ⟨hb2, hh2⟩;have HB2 : Hid (Below w.heap.size w w2) := aa ⟨hb2.os, hb2.tape, hb2.output, hb2.size, hb2.block⟩;have HS2 := aa (HS.out.below HB2.out);have d0 := HS2.out.2.1.cell (i := 0) rfl;have d1 := HS2.out.2.1.cell (i := 1) rfl;clear hb2 hh2 c0 c1;simp only [List.take_succ_cons, List.take_zero, List.drop_succ_cons, List.drop_zero]
 repeat still_step
 refine wpStill_nil ?_;clear w1' w2';go_wp2_with fail;refine (HPUT1.out w2 HS2.out).mono ?_;rintro e w3 hp3;have HP3 := aa (dB.trans (di.of_below HB2.out) hp3);unfold dB at hp3
 split at hp3
 ·obtain ⟨rfl, _⟩ := hp3;go_wp2_with fail;go_ret;rw [HRR.out]; exact HP3.out
 ·obtain ⟨rfl, _⟩ := hp3;go_wp2_with fail;go_ret;rw [HRR.out]; exact HP3.out) : P := h
theorem Sq493114 {P : Prop} (h : P := by
 have HRR : Hid (R = .bad 1) := aa (by
  rw [HRS.out]; unfold dj; rw [if_neg NT.out, if_neg (of_decide_eq_false hm), if_pos rfl])
 rw [hm] at HC;clear hm;go_enter Tryz.func22, Tryz.ntmps22;go_wp2_with fail
 go_quiet (fail)
 go_wp2_with fail
 first
 |(
  guard_hyp z493114a
  go_quiet (fail)
  go_wp2_with fail)
 | skip
 go_quiet ((go_at_call 43; exact cN (HC.out _)))
 go_wp2_with fail;go_ret;rw [HRR.out];exact ⟨rfl, bW.same HS.out ⟨rfl, rfl, rfl, Nat.le_refl _, fun _ _ => rfl⟩⟩) : P := h
theorem tH (B b : Nat) (s : ByteArray) (v : Value) (p : Nat) (acc : List (am × Nat)) (w : World) (hs : s.size <= 1099511627776) (h : Sc w B b s p v acc) (hacc : acc.length <= 4096) (hp : p < s.size)
    (hl : aV s[p].toNat = false) (hdg : cP s[p].toNat = false) (h39 : ¬ s[p].toNat = 39) :
    Calls Tryz.prog 22 #[.pointer (some ⟨b, 0, none⟩)] w (oS B b s v p acc (cu (s.data.toList.drop p)) w) := by
 have HLN : Hid (s.data.toList.length = s.size) := aa (by simp);have HN0 : Hid (nb (s.data.toList.drop p) 0 = s[p].toNat) := aa (by rw [cT, dw s p hp]; rfl);have HRS := aa (l6 (r := s.data.toList.drop p) (by rw [HN0.out]; exact hl) (by rw [HN0.out]; exact hdg) (by rw [HN0.out]; exact h39));obtain ⟨R, hR⟩ := nam (cu (s.data.toList.drop p));have HR := aa hR;rw [hR];rw [hR] at HRS;clear hR hl hdg h39;have HS := aa h;clear h;have hb := HS.out.2.1;have c0 := hb.cell (i := 0) rfl;have c1 := hb.cell (i := 1) rfl;clear hb;have p0 : (0 : Int) <= (p : Int) := by omega
 have w1' : IntKind.i64.wrap ((p : Int) + 1) = (p : Int) + 1 := IntWalk.i64_in _ (by omega);have w2' : IntKind.i64.wrap ((p : Int) + 2) = (p : Int) + 2 := IntWalk.i64_in _ (by omega);have t1' : ((p : Int) + 1).toNat = p + 1 := by omega
 have t2' : ((p : Int) + 2).toNat = p + 2 := by omega
 have q1 : (0 : Int) <= (p : Int) + 1 := by omega
 have q2 : (p : Int) <= (p : Int) + 1 := by omega
 have q3 : (p : Int) + 1 <= s.size := by omega
 have HX1 := aa (cY s p 1 (by omega));have HC := aa (fun w => tG s p hp w);unfold kA at HC;have HPUT1 : Hid (∀ w2, Sc w2 B b s p v acc -> Calls Tryz.prog 25 #[.pointer (some ⟨b, 0, none⟩), .agg #[.int .i64 5, .string (s.extract p (p + 1)), .int .i64 0, .int .i64 0], .int .i64 1] w2 (dB B b s v p acc ⟨5, (s.data.toList.drop p).take 1, 0⟩ 1 w2)) := aa (fun w2 h2 => by
  have := gh B b s v p acc ⟨5, (s.data.toList.drop p).take 1, 0⟩ 0 1 w2 h2 hacc (by omega);dsimp only at this;rw [<- HX1.out] at this;exact this)
 have HT1 : Hid (((s.data.toList.drop p).take 1).length = 1) := aa (by rw [List.length_take, List.length_drop, HLN.out]; omega)
 by_cases hq : p + 1 < s.size
 ·have hq' : (p : Int) + 1 < s.size := by omega
  have q4 : (p : Int) <= (p : Int) + 2 := by omega
  have q5 : (p : Int) + 2 <= s.size := by omega
  have q6 : (0 : Int) <= (p : Int) + 2 := by omega
  have HX2 := aa (cY s p 2 (by omega));have H2 : Hid ((s.extract p (p + 2)).data.toList = (s.data.toList.drop p).take 2) := aa (by rw [HX2.out]; simp [ai]);have HPUT2 : Hid (∀ w2, Sc w2 B b s p v acc -> Calls Tryz.prog 25 #[.pointer (some ⟨b, 0, none⟩), .agg #[.int .i64 5, .string (s.extract p (p + 2)), .int .i64 0, .int .i64 0], .int .i64 2] w2 (dB B b s v p acc ⟨5, (s.data.toList.drop p).take 2, 0⟩ 2 w2)) := aa (fun w2 h2 => by
   have := gh B b s v p acc ⟨5, (s.data.toList.drop p).take 2, 0⟩ 0 2 w2 h2 hacc (by omega);dsimp only at this;rw [<- HX2.out] at this;exact this)
  by_cases c1 : (s.extract p (p + 2)).toList = [60, 61]
  ·exact Sq225388
  by_cases c2 : (s.extract p (p + 2)).toList = [62, 61]
  ·have z225388b := trivial;exact Sq225388
  by_cases c3 : (s.extract p (p + 2)).toList = [60, 62]
  ·have z225388a := trivial;exact Sq225388
  have NT : Hid (¬ (s.data.toList.drop p).take 2 ∈ fw) := aa (by
   rw [<- H2.out, <- Lib.toList_data];intro hm;simp only [fw, List.mem_cons, List.not_mem_nil, or_false] at hm;rcases hm with e | e | e
   ·exact c1 e
   ·exact c2 e
   ·exact c3 e)
  have b1 : ((s.extract p (p + 2)).toList == [60, 61]) = false := beq_eq_false_iff_ne.2 c1;have b2 : ((s.extract p (p + 2)).toList == [62, 61]) = false := beq_eq_false_iff_ne.2 c2;have b3 : ((s.extract p (p + 2)).toList == [60, 62]) = false := beq_eq_false_iff_ne.2 c3;clear c1 c2 c3;cases hm : decide ((s.data.toList.drop p).take 1 ∈ ej) with
  | true =>
   have z552280a := trivial;exact Sq552280
  | false =>
   have z493114a := trivial;exact Sq493114
 ·have hq' : decide ((p : Int) + 1 < s.size) = false := decide_eq_false (by omega);have hq2 : ¬ (p : Int) + 1 < s.size := by omega
  have NT : Hid (¬ (s.data.toList.drop p).take 2 ∈ fw) := aa (fun hm => by
   have := ey _ hm;rw [List.length_take, List.length_drop, HLN.out] at this;omega)
  cases hm : decide ((s.data.toList.drop p).take 1 ∈ ej) with
  | true =>
   exact Sq552280
  | false =>
   exact Sq493114
theorem Bw {s : ByteArray} {i : Nat} (hi : i < s.size) (h : s[i].toNat = 39) : dk (s.data.toList.drop i) = some 0 := by
 rw [List.drop_eq_getElem_cons (by simpa using hi), ez];rw [if_pos (UInt8.toNat_inj.1 h)]
theorem Bx {s : ByteArray} {i : Nat} (hi : i < s.size) (h : s[i].toNat = 92) : dk (s.data.toList.drop i) = (dk (s.data.toList.drop (i + 2))).map (· + 2) := by
 have hc : s.data.toList[i]'(by simpa using hi) = 92 := UInt8.toNat_inj.1 h;rw [List.drop_eq_getElem_cons (by simpa using hi), ez, hc, if_neg (by decide), if_pos rfl];have e : s.data.toList.drop (i + 2) = (s.data.toList.drop (i + 1)).drop 1 := by rw [List.drop_drop]
 rw [e];cases s.data.toList.drop (i + 1) with
 | nil => rfl
 | cons c r => rfl
theorem By {s : ByteArray} {i : Nat} (hi : i < s.size) (h1 : ¬ s[i].toNat = 39) (h2 : ¬ s[i].toNat = 92) : dk (s.data.toList.drop i) = (dk (s.data.toList.drop (i + 1))).map (· + 1) := by
 rw [List.drop_eq_getElem_cons (by simpa using hi), ez, if_neg (fun e => h1 (by show (s.data.toList[i]'(by simpa using hi)).toNat = 39; rw [e]; rfl)), if_neg (fun e => h2 (by show (s.data.toList[i]'(by simpa using hi)).toNat = 92; rw [e]; rfl))]
theorem rX {o : Option Nat} (a b : Nat) : (o.map (· + a)).map (· + b) = o.map (· + (b + a)) := by
 cases o with
 | none => rfl
 | some n => simp; omega
theorem ym (s : ByteArray) (p i : Nat) (h : p + 1 <= i) (hi : i < s.size) (hp : nb s.data.toList p = 39) (hq : nb s.data.toList i = 39) :
    mT (s.extract p (i + 1)).data.toList = uq ((s.data.toList.drop (p + 1)).take (i - (p + 1))) := by
 have hl : s.data.toList.length = s.size := by simp
 rw [gf];unfold mT;have hlen : ((s.data.toList.drop p).take (i + 1 - p)).length = i + 1 - p := by rw [List.length_take, List.length_drop, hl]; omega
 rw [hlen, if_pos ⟨by omega, by rw [dE _ _ _ (by omega), cT]; exact hp, by rw [dE _ _ _ (by omega), cT, show p + (i + 1 - p - 1) = i from by omega]; exact hq⟩];rw [List.drop_take, List.drop_drop, List.take_take, Nat.min_eq_left (by omega), show i + 1 - p - 2 = i - (p + 1) from by omega]
theorem oU (B b : Nat) (s : ByteArray) (v : Value) (p : Nat) (acc : List (am × Nat)) (w : World) (hs : s.size <= 1099511627776) (h : Sc w B b s p v acc) (hacc : acc.length <= 4096) (hp : p < s.size)
    (h39 : s[p].toNat = 39) :
    Calls Tryz.prog 20 #[.pointer (some ⟨b, 0, none⟩)] w (oS B b s v p acc (cu (s.data.toList.drop p)) w) := by
 have HLN : Hid (s.data.toList.length = s.size) := aa (by simp);have HNP : Hid (nb s.data.toList p = 39) := aa (by rw [<- dw s p hp]; exact h39);have HRQ := aa (vt (r := s.data.toList.drop p) (by rw [cT]; exact HNP.out));have HRD := aa (vn _ (s.data.toList.drop (p + 1)) rfl);obtain ⟨R, hR⟩ := nam (cu (s.data.toList.drop p));have HR := aa hR;rw [hR];rw [hR] at HRQ;have HS := aa h;clear hR h39 h;have hb := HS.out.2.1;have c0 := hb.cell (i := 0) rfl;have c1 := hb.cell (i := 1) rfl;have hlt := hb.lt;clear hb;have p0 : (0 : Int) <= (p : Int) := by omega
 go_enter Tryz.func20, Tryz.ntmps20;go_wp2_with fail
 go_loop [3] (fun k => ∃ i : Nat, k = .int .i64 i /\ p + 1 <= i /\ i <= s.size + 1 /\ Hid (dk (s.data.toList.drop (p + 1)) = (dk (s.data.toList.drop i)).map (· + (i - (p + 1))))) (fun k => s.size + 1 - (intOf k).toNat)
 case atStart => exact ⟨p + 1, by go_num, by omega, by omega, aa (by rw [Nat.sub_self]; cases dk (s.data.toList.drop (p + 1)) <;> rfl)⟩
 case round =>
  obtain ⟨i, rfl, hpi, his, HRW⟩ := hrel
  by_cases hq : i < s.size
  ·have hq' : (i : Int) < s.size := by omega
   have X : Hid (s[i].toNat = nb s.data.toList i) := aa (dw s i hq)
   by_cases a : s[i].toNat = 39
   ·have b1 : ((s[i].toNat : Int) == 39) = true := by rw [a]; rfl
    have b2 : ((s[i].toNat : Int) != 39) = false := by rw [a]; rfl
    have HRF : Hid (dk (s.data.toList.drop (p + 1)) = some (i - (p + 1))) := aa (by rw [HRW.out, Bw hq a]; simp);have HQD : Hid (qd ((s.data.toList.drop p).drop 1) = (uq ((s.data.toList.drop (p + 1)).take (i - (p + 1)))).map fun t => (t, (s.data.toList.drop (p + 1)).drop (i - (p + 1) + 1))) := aa (by rw [List.drop_drop, HRD.out, HRF.out]);have hxz : (s.extract p (i + 1)).size <= 1099511627776 := by simp; omega
    have HUN : Hid (mT (s.extract p (i + 1)).data.toList = uq ((s.data.toList.drop (p + 1)).take (i - (p + 1)))) := aa (ym s p i hpi hq HNP.out (by rw [<- X.out]; exact a));have HU := aa (fun w => oB (s.extract p (i + 1)) w hxz);rw [HUN.out] at HU;clear a;have g0 : ∀ u : aq w.heap.size w, u.w.cell? ⟨b, 0, none⟩ = some (.string s) := fun u => u.cell hlt c0
    have g1 : ∀ u : aq w.heap.size w, u.w.cell? ⟨b, 1, none⟩ = some (.int .i64 p) := fun u => u.cell hlt c1
    have w1' : IntKind.i64.wrap ((i : Int) + 1) = (i : Int) + 1 := IntWalk.i64_in _ (by omega);have t1' : ((i : Int) + 1).toNat = i + 1 := by omega
    have q1 : (0 : Int) <= (i : Int) + 1 := by omega
    have q2 : (p : Int) <= (i : Int) + 1 := by omega
    have q3 : (i : Int) + 1 <= s.size := by omega
    have hge : ¬ (s.size : Int) <= i := by omega
    cases hu : uq ((s.data.toList.drop (p + 1)).take (i - (p + 1))) with
    | none =>
     have HRR : Hid (R = .bad 1) := aa (by rw [HRQ.out, HQD.out, hu]; rfl);rw [hu] at HU;have HCS : Hid (∀ u : aq w.heap.size w, Calls Tryz.prog 42 #[.string (s.extract p (i + 1))] u.w fun e w'' => e = .returned (.tuple #[.string ⟨#[]⟩, .int .i64 1]) /\ ∃ u' : aq w.heap.size w, w'' = u'.w) := aa (fun u => aJ u (Nat.le_refl _) (HU.out _));clear hu HU;go_wp2_with fail;refine eV w.heap.size (by kernel_rfl) (by kernel_rfl) ?_
     repeat (go_big_quiet_step (exact HCS.out _))
     refine wpQuiet_nil ?_;intro w2 hw';obtain ⟨u, hu⟩ := hw';have hb2 := u.below;rw [<- hu] at hb2;have HB2 := aa hb2;clear hu g0 g1 hb2 w1';go_wp2_with fail;go_ret;rw [HRR.out];exact ⟨rfl, bW.same HS.out HB2.out⟩
    | some t =>
     have HRR : Hid (R = .tok ⟨4, t, 0⟩ (i + 1 - p)) := aa (by
      rw [HRQ.out, HQD.out, hu];show Cg.tok _ _ = _;rw [List.length_drop, List.length_drop, List.length_drop, HLN.out, show s.size - p - (s.size - (p + 1) - (i - (p + 1) + 1)) = i + 1 - p from by omega])
     rw [hu] at HU;have HCS : Hid (∀ u : aq w.heap.size w, Calls Tryz.prog 42 #[.string (s.extract p (i + 1))] u.w fun e w'' => e = .returned (.tuple #[.string (ai t), .int .i64 0]) /\ ∃ u' : aq w.heap.size w, w'' = u'.w) := aa (fun u => aJ u (Nat.le_refl _) (HU.out _));have HPUT : Hid (∀ w2, Sc w2 B b s p v acc -> Calls Tryz.prog 25 #[.pointer (some ⟨b, 0, none⟩), .agg #[.int .i64 4, .string (ai t), .int .i64 0, .int .i64 0], .int .i64 ((i : Int) + 1 - p)] w2 (dB B b s v p acc ⟨4, t, 0⟩ (i + 1 - p) w2)) := aa (fun w2 h2 => by
      rw [show (i : Int) + 1 - p = ((i + 1 - p : Nat) : Int) from by omega];exact gh B b s v p acc ⟨4, t, 0⟩ 0 (i + 1 - p) w2 h2 hacc (by omega))
     clear hu HU;go_wp2_with fail;refine eV w.heap.size (by kernel_rfl) (by kernel_rfl) ?_
     repeat (go_big_quiet_step (exact HCS.out _))
     refine wpQuiet_nil ?_;intro w2 hw';obtain ⟨u, hu⟩ := hw';have hb2 := u.below;rw [<- hu] at hb2;have HB2 := aa hb2;have HS2 := aa (HS.out.below hb2);have d1 := HS2.out.2.1.cell (i := 1) rfl;clear hu g0 g1 hb2 w1';go_wp2_with fail;refine (HPUT.out w2 HS2.out).mono ?_;rintro e w3 hp3;have HP3 := aa (dB.trans (di.of_below HB2.out) hp3);unfold dB at hp3
     split at hp3
     ·obtain ⟨rfl, _⟩ := hp3;go_wp2_with fail;go_ret;rw [HRR.out]; exact HP3.out
     ·obtain ⟨rfl, _⟩ := hp3;go_wp2_with fail;go_ret;rw [HRR.out]; exact HP3.out
   ·have b1 : ((s[i].toNat : Int) == 39) = false := beq_eq_false_iff_ne.2 (by omega);have b2 : ((s[i].toNat : Int) != 39) = true := by simp [bne, b1]
    by_cases c : s[i].toNat = 92
    ·have b3 : ((s[i].toNat : Int) == 92) = true := by rw [c]; rfl
     have HN : Hid (dk (s.data.toList.drop (p + 1)) = (dk (s.data.toList.drop (i + 2))).map (· + (i + 2 - (p + 1)))) := aa (by rw [HRW.out, Bx hq c, rX, show i - (p + 1) + 2 = i + 2 - (p + 1) from by omega]);clear a c;go_wp2_with fail;go_round;case rel => exact ⟨i + 2, by go_num, by omega, by omega, HN⟩
     case measure => simp [intOf]; omega
    ·have b3 : ((s[i].toNat : Int) == 92) = false := beq_eq_false_iff_ne.2 (by omega);have HN : Hid (dk (s.data.toList.drop (p + 1)) = (dk (s.data.toList.drop (i + 1))).map (· + (i + 1 - (p + 1)))) := aa (by rw [HRW.out, By hq a c, rX, show i - (p + 1) + 1 = i + 1 - (p + 1) from by omega]);clear a c;go_wp2_with fail;go_round;case rel => exact ⟨i + 1, by go_num, by omega, by omega, HN⟩
     case measure => simp [intOf]; omega
  ·have hq' : ¬ (i : Int) < s.size := by omega
   have hge : (s.size : Int) <= i := by omega
   have HRR : Hid (R = .bad 1) := aa (by
    rw [HRQ.out, List.drop_drop, HRD.out, HRW.out, List.drop_of_length_le (by rw [HLN.out]; omega)]; rfl)
   go_wp2_with fail;go_ret;rw [HRR.out];exact ⟨rfl, bW.same HS.out (Below.refl _ _)⟩
end Go.Proofs.YteljlahcdipilaaGreat

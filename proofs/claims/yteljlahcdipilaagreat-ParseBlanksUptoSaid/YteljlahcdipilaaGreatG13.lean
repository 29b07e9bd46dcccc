/- Parts L21, L22, L23, L25, L26, L27 of this seat (pruned, scripts that are alike kept once as default arguments: q1, q2, ..). Conditions: each says its own. -/
import Derived.Deep.DeepCutAuto
import Derived.Laws.EntriesVeiled
import Derived.Test.YteljlahcdipilaaGreatG12
set_option linter.unusedSimpArgs false
set_option linter.unusedVariables false
set_option maxRecDepth 1000000
set_option maxHeartbeats 64000000
namespace Go.Proofs.YteljlahcdipilaaGreat
open Go.RowKit Go.Shelf
def rY (g : Nat) (L : List UInt8) (j : Nat) (acc : List (am × Nat)) : iC :=
  if L.drop j = [] then (if 4096 <= acc.length then .bad j 8 else .ok (acc ++ [(⟨6, [], 0⟩, j)]))
  else match cu (L.drop j) with
    | .bad e => .bad j e
    | .tok t n => if 4096 <= acc.length then .bad j 8 else db g (L.drop (j + n)) (j + n) (acc ++ [(t, j)])
def iR (b : Nat) : List Value :=
  [.func (.func 15) #[] #[], .func (.func 16) #[.pointer (some ⟨b, 0, none⟩)] #[],
   .func (.func 17) #[] #[], .func (.func 18) #[.pointer (some ⟨b, 0, none⟩)] #[],
   .func (.func 19) #[] #[], .func (.func 20) #[.pointer (some ⟨b, 0, none⟩)] #[],
   .func (.func 21) #[] #[], .func (.func 22) #[.pointer (some ⟨b, 0, none⟩)] #[]]
theorem rZ (w : World) (X Y : Obj) : ((w.alloc X).alloc Y).drew.heap[w.heap.size]? = some X := by
 show ((w.alloc X).alloc Y).heap[w.heap.size]? = _;rw [Below.heap_alloc _ _ _ (by simp)];exact heap_alloc_new w X
structure yo (w : World) (s : ByteArray) (R : iC) (g : Nat) (wr : World) (j n : Nat) (v : Value) (acc : List (am × Nat)) : Prop where
  sc : Sc wr w.heap.size w.heap.size s j v acc
  own : ∀ x ∈ fU w.heap.size v, x = w.heap.size \/ w.heap.size + 1 < x
  rules : ae wr (w.heap.size + 1) (iR w.heap.size) 51
  below : Below w.heap.size w wr
  j_le : j <= s.size
  n_le : acc.length <= 4096
  n_eq : n = acc.length
  res : R = rY g s.data.toList j acc
  fuel : s.size - j <= g
structure Ch (w : World) (s : ByteArray) (R : iC) (g : Nat) (wr : World) (p : Nat) (v : Value) (acc : List (am × Nat)) : Prop where
  sc : Sc wr w.heap.size w.heap.size s p v acc
  own : ∀ x ∈ fU w.heap.size v, x = w.heap.size \/ w.heap.size + 1 < x
  rules : ae wr (w.heap.size + 1) (iR w.heap.size) 51
  below : Below w.heap.size w wr
  p_le : p <= s.size
  n_le : acc.length <= 4096
  res : R = db g (s.data.toList.drop p) p acc
  fuel : s.size - p < g
theorem bW.facts {w u w3 : World} {s : ByteArray} {p p' : Nat} {v : Value} {acc : List (am × Nat)} (hown : ∀ x ∈ fU w.heap.size v, x = w.heap.size \/ w.heap.size + 1 < x)
    (hB : Below w.heap.size w u) (hr : ae u (w.heap.size + 1) (iR w.heap.size) 51) (h : bW w.heap.size w.heap.size s v p' acc u w3) :
    ∃ v', Sc w3 w.heap.size w.heap.size s p' v' acc /\ (∀ x ∈ fU w.heap.size v', x = w.heap.size \/ w.heap.size + 1 < x) /\ ae w3 (w.heap.size + 1) (iR w.heap.size) 51 /\ Below w.heap.size w w3 := by
 obtain ⟨v', h1, h2, h3⟩ := h;have hlt := hr.lt;refine ⟨v', h1, fun x hx => ?_, hr.of_heap (h2.block _ hlt (fun hm => by rcases hown _ hm with e | e <;> omega)), hB.trans (h2.below (fun x hx => by rcases hown x hx with e | e <;> omega) hB.size)⟩;rcases h3 x hx with h4 | h4
 ·exact hown x h4
 ·exact .inr (by omega)
theorem jd {w wr u w3 : World} {s : ByteArray} {R : iC} {g j n : Nat} {v : Value} {acc : List (am × Nat)} {e : Ending} (H : yo w s R g wr j n v acc) (hj : j < s.size) (hu : Below wr.heap.size wr u)
    (h : oS w.heap.size w.heap.size s v j acc (cu (s.data.toList.drop j)) u e w3) :
    (∃ x v', (x != 0) = true /\ e = .returned (.int .i64 x) /\ R = .bad j x /\ ae w3 w.heap.size [.string s, .int .i64 j, v'] 47 /\ Below w.heap.size w w3) \/
    ∃ p v' acc', e = .returned (.int .i64 0) /\ Ch w s R g w3 p v' acc' := by
 have hl : s.data.toList.length = s.size := by simp
 have hne : s.data.toList.drop j ≠ [] := by intro e; have := congrArg List.length e; rw [List.length_drop, hl] at this; simp at this; omega
 have hr := H.res;unfold rY at hr;rw [if_neg hne] at hr;have hB : Below w.heap.size w u := H.below.trans (hu.mono H.below.size);have hru : ae u (w.heap.size + 1) (iR w.heap.size) 51 := H.rules.below hu H.rules.lt;cases ho : cu (s.data.toList.drop j) with
 | bad x =>
  rw [ho] at h hr;obtain ⟨rfl, hm⟩ := h;obtain ⟨v', h1, _, _, h4⟩ := bW.facts (p := j) H.own hB hru hm;have hx := rV ho;exact .inl ⟨x, v', by simp [bne, hx], rfl, hr, h1.2.1, h4⟩
 | tok t m =>
  rw [ho] at h hr;have hsz := eA hne ho;rw [List.length_drop, hl] at hsz;have h : dB w.heap.size w.heap.size s v j acc t m u e w3 := h;have hr : R = if 4096 <= acc.length then .bad j 8 else db g (s.data.toList.drop (j + m)) (j + m) (acc ++ [(t, j)]) := hr
  unfold dB at h
  by_cases hc : 4096 <= acc.length
  ·rw [if_pos hc] at h hr;obtain ⟨rfl, hm⟩ := h;obtain ⟨v', h1, _, _, h4⟩ := bW.facts (p := j) H.own hB hru hm;exact .inl ⟨8, v', by decide, rfl, hr, h1.2.1, h4⟩
  ·rw [if_neg hc] at h hr;obtain ⟨rfl, hm⟩ := h;obtain ⟨v', h1, h2, h3, h4⟩ := bW.facts (p := j) H.own hB hru hm;exact .inr ⟨j + m, v', acc ++ [(t, j)], rfl, ⟨h1, h2, h3, h4, by omega, by simp; omega, hr, by have := H.fuel; omega⟩⟩
theorem Ch.head {w wr w4 : World} {s : ByteArray} {R : iC} {g p q : Nat} {v : Value} {acc : List (am × Nat)} (H : Ch w s R g wr p v acc) (hq : aG aI (s.data.toList.drop p) = q) (hh : w4.heap = wr.heap) (hos : w4.os = wr.os) (ht : w4.tape = wr.tape) (hou : w4.output = wr.output) :
    ∃ g', g = g' + 1 /\ yo w s R g' (w4.setCell ⟨w.heap.size, 1, none⟩ (.int .i64 ((p : Int) + q))) (p + q) acc.length v acc := by
 have hl : s.data.toList.length = s.size := by simp
 have hqs : p + q <= s.size := by have := cU aI (s.data.toList.drop p); rw [hq, List.length_drop, hl] at this; have := H.p_le; omega
 have hf := H.fuel;refine ⟨g - 1, by omega, ?_⟩;have hblk : ∀ {b : Nat} {c : List Value} {t : TypeId}, ae wr b c t -> ae w4 b c t := fun h => h.of_heap (by rw [hh])
 have hb := (hblk H.sc.2.1).set 1 (.int .i64 ((p : Int) + q));have hne : ∀ k, v.ownBlock = some k -> k ≠ w.heap.size := H.sc.2.2.2;refine ⟨⟨H.sc.1, ?_, nh (dF H.sc.2.2.1 (fun k _ => by rw [hh])) hne _, hne⟩, H.own, (hblk H.rules).set_other (by show w.heap.size + 1 ≠ w.heap.size; omega) _, ?_, hqs, H.n_le, rfl, ?_, by omega⟩
 ·rw [show ((p + q : Nat) : Int) = (p : Int) + q from by omega]; exact hb
 ·refine Below.setCell (p := ⟨w.heap.size, 1, none⟩) ⟨hos.trans H.below.os, ht.trans H.below.tape, hou.trans H.below.output, by rw [hh]; exact H.below.size, fun k hk => by rw [hh]; exact H.below.block k hk⟩ (Nat.le_refl _) _
 ·have := oP (g - 1) s.data.toList p (p + q) acc (by omega) (by rw [hq]; omega);rw [show g - 1 + 1 = g from by omega] at this;rw [H.res, this]; rfl
theorem Sq718528 {P : Prop} (h : P := by
 first
 |(
  guard_hyp z718528b
  obtain ⟨i, rfl, hi0, hi1, HBI⟩ := hrel;have hsi := (HU.out _ HBI.out).1.2.1;have e0 := hsi.cell (i := 0) rfl;have e1 := hsi.cell (i := 1) rfl;have hri := HRI.out _ HBI.out;have hzi := HBI.out.size;have hlt1 : w.heap.size < wr.heap.size := by omega
  have hlt2 : w.heap.size + 1 < wr.heap.size := by omega
  have hcase : i = 0 := by omega
  obtain rfl := hcase;have r0 := hri.cell (i := 0) rfl;have r1 := hri.cell (i := 1) rfl)
 |(
  first
  |(
   guard_hyp z463052a
   have r0 := hri.cell (i := 6) rfl;have r1 := hri.cell (i := 7) rfl)
  |(
   guard_hyp z463052b
   have r0 := hri.cell (i := 4) rfl;have r1 := hri.cell (i := 5) rfl)
  |(
   have r0 := hri.cell (i := 2) rfl;have r1 := hri.cell (i := 3) rfl))
 clear hsi hri;go_wp2_with fail
 first
 |(
  guard_hyp z718528a
  first
  | (guard_hyp z463052b; go_quiet ((go_at_call 19; exact Calls.quiet_of_same (HQ.out _))))
  | (guard_hyp z463052c; go_quiet ((go_at_call 17; exact Calls.quiet_of_same (HD.out _))))
  | (go_quiet ((go_at_call 21; exact Calls.quiet_of_same (tB _ _)))))
 | (go_quiet ((go_at_call 15; exact Calls.quiet_of_same (HL.out _))))
 go_wp2_with fail;refine (HREAD.out _ (aH (HBI.out.alloc HBI.out.size _) _)).mono ?_;rintro e w3 hp3;rcases jd HH.out hj (aH (HBI.out.alloc HBI.out.size _) _) hp3 with ⟨x, v', hx, rfl, hrr, hb3, hB3⟩ | ⟨p', v', acc', rfl, hmid⟩
 ·have HRR := aa hrr;have HB3 := aa hB3;have k1 := hb3.cell (i := 1) rfl;clear hrr hb3 hB3 e0 e1 r0 r1 hp3;go_wp2_with fail
  go_quiet (fail)
  go_wp2_with fail;refine bodyPost_ret (v := .tuple #[.slice none 0 0, .int .i64 j, .int .i64 x]) (by simp [results, Tryz.results7, go_sem]) rfl ⟨?_, aH HB3.out _⟩;rw [HRR.out]; rfl
 ·obtain ⟨q, hqq⟩ := nam (aG aI (s.data.toList.drop p'));have HMID := aa hmid;have HQQ := aa hqq;have HWH : Hid (∀ u, u.heap = w3.heap -> Calls Tryz.prog 23 #[.pointer (some ⟨w.heap.size, 0, none⟩), .func (.func 24) #[] #[]] u (gO q u)) := aa (fun u hu => by
   have := fc s p' w.heap.size u v' hs hmid.p_le (hmid.sc.2.1.of_heap (by rw [hu]));rw [hqq] at this; exact this)
  have hpq : p' + q <= s.size := by have := cU aI (s.data.toList.drop p'); rw [hqq, List.length_drop, HLN.out] at this; have := hmid.p_le; omega
  have k1 := hmid.sc.2.1.cell (i := 1) rfl;have f1 := hmid.sc.2.1.free 1;have s1 : IntKind.i64.wrap ((p' : Int) + q) = (p' : Int) + q := IntWalk.i64_in _ (by omega);clear hmid hqq e0 e1 r0 r1 c1 hp3;go_wp2_with fail
  go_region_law (first | (go_simp; go_at_call 23; refine (HWH.out _ (by rfl)).mono ?_; rintro e w4 ⟨rfl, hm4⟩; have hh4 : w4.heap = w3.heap /\ w4.os = w3.os /\ w4.tape = w3.tape /\ w4.output = w3.output := (by obtain ⟨m, rfl⟩ := hm4; exact ⟨rfl, rfl, rfl, rfl⟩); have hb4 : ae w4 w.heap.size [.string s, .int .i64 p', v'] 47 := HMID.out.sc.2.1.of_heap (by rw [hh4.1]); have k4 := hb4.cell (i := 1) rfl; have f4 := hb4.free 1; have HH4 := aa hh4; clear hb4 hh4))
  all_goals
   obtain ⟨g', hg', hhead⟩ := HMID.out.head HQQ.out HH4.out.1 HH4.out.2.1 HH4.out.2.2.1 HH4.out.2.2.2;have HHN := aa hhead;have HG := aa hg';clear hg' hhead s1;go_wp2_with fail;go_roundg g';case measure => have := HG.out; omega
   case rel => exact ⟨_, _, _, _, HHN⟩) : P := h
theorem Sq463052 {P : Prop} (h : P := by
 first
 |(
  guard_hyp z463052a
  have HREAD := aa (fun u (hu : Below wo.heap.size wo u) => tH w.heap.size w.heap.size s v j acc u hs (HU.out u hu).1 HH.out.n_le hj hl hd hq);rw [decide_eq_false hq] at HQ;clear hl hd hq)
 |(
  guard_hyp z463052b
  have HREAD := aa (fun u (hu : Below wo.heap.size wo u) => oU w.heap.size w.heap.size s v j acc u hs (HU.out u hu).1 HH.out.n_le hj hq);rw [decide_eq_true hq] at HQ;clear hl hd hq)
 |(
  have HREAD := aa (fun u (hu : Below wo.heap.size wo u) => oT w.heap.size w.heap.size s v j acc u hs (HU.out u hu).1 HH.out.n_le hj hl hd);rw [hd] at HD;clear hl hd)
 go_wp2_with fail
 first
 | (guard_hyp z463052a; go_loopw [57] (fun k wi => ∃ i : Int, k = .int .i64 i /\ 0 <= i /\ i <= 3 /\ Hid (Below wo.heap.size wo wi)) (fun k _ => 4 - (intOf k).toNat))
 | (guard_hyp z463052b; go_loopw [57] (fun k wi => ∃ i : Int, k = .int .i64 i /\ 0 <= i /\ i <= 2 /\ Hid (Below wo.heap.size wo wi)) (fun k _ => 4 - (intOf k).toNat))
 | (go_loopw [57] (fun k wi => ∃ i : Int, k = .int .i64 i /\ 0 <= i /\ i <= 1 /\ Hid (Below wo.heap.size wo wi)) (fun k _ => 4 - (intOf k).toNat))
 case atStart => exact ⟨0, rfl, by omega, by omega, aa (Below.refl _ _)⟩
 case round =>
  obtain ⟨i, rfl, hi0, hi1, HBI⟩ := hrel;have hsi := (HU.out _ HBI.out).1.2.1;have e0 := hsi.cell (i := 0) rfl;have e1 := hsi.cell (i := 1) rfl;have hri := HRI.out _ HBI.out;have hzi := HBI.out.size;have hlt1 : w.heap.size < wr.heap.size := by omega
  have hlt2 : w.heap.size + 1 < wr.heap.size := by omega
  first
  |(
   guard_hyp z463052a
   have hcase : i = 0 \/ i = 1 \/ i = 2 \/ i = 3 := by omega
   rcases hcase with rfl | rfl | rfl | rfl)
  |(
   guard_hyp z463052b
   have hcase : i = 0 \/ i = 1 \/ i = 2 := by omega
   rcases hcase with rfl | rfl | rfl)
  |(
   have hcase : i = 0 \/ i = 1 := by omega
   rcases hcase with rfl | rfl)
  ·have r0 := hri.cell (i := 0) rfl;have r1 := hri.cell (i := 1) rfl;clear hsi hri;go_wp2_with fail
   go_quiet ((go_at_call 15; exact Calls.quiet_of_same (HL.out _)))
   go_wp2_with fail;go_roundw;case rel => exact ⟨1, rfl, by omega, by omega, aa (aH (HBI.out.alloc HBI.out.size _) _)⟩
   case measure => simp [intOf]
  first
  | (guard_hyp z463052c)
  |(
   ·have r0 := hri.cell (i := 2) rfl;have r1 := hri.cell (i := 3) rfl;clear hsi hri;go_wp2_with fail
    go_quiet ((go_at_call 17; exact Calls.quiet_of_same (HD.out _)))
    go_wp2_with fail;go_roundw;case rel => exact ⟨2, rfl, by omega, by omega, aa (aH (HBI.out.alloc HBI.out.size _) _)⟩
    case measure => simp [intOf]
   first
   |(
    guard_hyp z463052a
    ·have r0 := hri.cell (i := 4) rfl;have r1 := hri.cell (i := 5) rfl;clear hsi hri;go_wp2_with fail
     go_quiet ((go_at_call 19; exact Calls.quiet_of_same (HQ.out _)))
     go_wp2_with fail;go_roundw;case rel => exact ⟨3, rfl, by omega, by omega, aa (aH (HBI.out.alloc HBI.out.size _) _)⟩
     case measure => simp [intOf])
   | skip)
  ·have z718528a := trivial;exact Sq718528) : P := h
theorem vu (s : ByteArray) (mm : Int) (w : World) (hs : s.size <= 1099511627776) (hm : w.cell? yj = some (.int .i64 mm)) (hg : 0 < w.heap.size) :
    Calls Tryz.prog 7 #[.string s] w (zT (cv s.data.toList) w) := by
 have HLN : Hid (s.data.toList.length = s.size) := aa (by simp);obtain ⟨R, hR⟩ := nam (cv s.data.toList);have HR := aa hR;rw [hR];clear hR
 by_cases hbig : 16384 < s.size
 ·have hbig' : (16384 : Int) < s.size := by omega
  have HRR : Hid (R = .bad 0 8) := aa (by rw [<- HR.out]; unfold cv; rw [if_pos (by rw [HLN.out]; exact hbig)]);go_enter Tryz.func7, Tryz.ntmps7;go_wp2_with fail;refine bodyPost_ret (v := .tuple #[.slice none 0 0, .int .i64 0, .int .i64 8]) (by simp [results, Tryz.results7, go_sem]) rfl ⟨?_, Below.refl _ _⟩;rw [HRR.out]; rfl
 have hbig' : ¬ (16384 : Int) < s.size := by omega
 have HR0 : Hid (db (s.size + 1) (s.data.toList.drop 0) 0 [] = R) := aa (by rw [<- HR.out]; unfold cv; rw [if_neg (by rw [HLN.out]; exact hbig), HLN.out]; rfl);have HM := aa hm;clear hm;obtain ⟨j0, hj0⟩ := nam (aG aI (s.data.toList.drop 0));have hj0l : j0 <= s.size := by have := cU aI (s.data.toList.drop 0); rw [hj0, List.length_drop, HLN.out] at this; omega
 have HRJ : Hid (R = rY s.size s.data.toList j0 []) := aa (by rw [<- HR0.out, oP s.size s.data.toList 0 j0 [] (by omega) (by rw [hj0]; rfl)]; rfl);have HSB0 : Hid (∀ u, u.heap[w.heap.size]? = some (.cells #[.string s, .int .i64 0, .slice none 0 0] 47 (0, 0)) -> Calls Tryz.prog 23 #[.pointer (some ⟨w.heap.size, 0, none⟩), .func (.func 24) #[] #[]] u (gO j0 u)) := aa (fun u hu => by
  have := fc s 0 w.heap.size u (.slice none 0 0) hs (by omega) hu;rw [hj0] at this; exact this)
 clear hj0;have s0 : IntKind.i64.wrap (j0 : Int) = j0 := IntWalk.i64_in _ (by omega);have S0 := aa s0;clear s0;go_enter Tryz.func7, Tryz.ntmps7;go_upto_region 5 with fail;go_cut [] (fun wx => ∃ n v, Hid (yo w s R s.size wx j0 n v []));case first =>
  have s0 := S0.out
  go_region_law (first | (go_simp; go_at_call 23; refine (HSB0.out _ (rZ w _ _)).mono ?_; rintro e w1 ⟨rfl, hm1⟩; have hb1 : ae w1 w.heap.size [.string s, .int .i64 0, .slice none 0 0] 47 := (by obtain ⟨m, rfl⟩ := hm1; exact rZ w _ _); have k1 := hb1.cell (i := 1) rfl; have f1 := hb1.free 1; have hrb : ae w1 (w.heap.size + 1) (iR w.heap.size) 51 := (by obtain ⟨m, rfl⟩ := hm1; exact rW w _ _); have hbl : Below w.heap.size w w1 := (by obtain ⟨m, rfl⟩ := hm1; exact aH (((Below.refl _ _).alloc (Nat.le_refl _) _).alloc (by simp) _).drew _); have HB1 := aa hb1; have HRB := aa hrb; have HBL := aa hbl; clear hb1 hrb hbl))
  all_goals
   go_wp2_with fail;go_meet;refine ⟨0, .slice none 0 0, aa ⟨⟨Nat.le_refl _, HB1.out.set 1 _, World.ownsRow_nil _ _ _ _, fun k e => (by cases e)⟩, fun x hx => ?_, HRB.out.set_other (by show w.heap.size + 1 ≠ w.heap.size; omega) _, HBL.out.setCell (p := ⟨w.heap.size, 1, none⟩) (Nat.le_refl _) _, hj0l, by simp, rfl, HRJ.out, by omega⟩⟩;rcases iQ hx with e | e
   ·exact .inl e
   ·cases e
 case rest =>
  obtain ⟨n0, v0, HH0⟩ := hcut;clear HSB0;go_wp2_with fail
  go_loopg [] s.size (fun g wr => ∃ j n v acc, Hid (yo w s R g wr j n v acc))
  case atStart => exact ⟨j0, n0, v0, [], HH0⟩
  case round =>
   clear HH0 HRJ HR0;obtain ⟨j, n, v, acc, HH⟩ := hrel;obtain ⟨wo, hwo⟩ : ∃ wo : World, wo = wr := ⟨_, rfl⟩;subst hwo;have hjs := HH.out.j_le;have hbk := HH.out.sc.2.1;have c1 := hbk.cell (i := 1) rfl;have hblt := hbk.lt;clear hbk
   by_cases hj : j < s.size
   ·have hj' : (j : Int) < s.size := by omega
    have hjp : (0 : Int) <= (j : Int) := by omega
    have hc : s[j].toNat < 256 := by have := s[j].toNat_lt; omega
    have HU : Hid (∀ u, Below wo.heap.size wo u -> Sc u w.heap.size w.heap.size s j v acc /\ u.cell? yj = some (.int .i64 mm) /\ 0 < u.heap.size) := aa (fun u hu => ⟨HH.out.sc.below hu, by
     have hb : Below w.heap.size w u := HH.out.below.trans (hu.mono HH.out.below.size);rw [hb.cell (by show 0 < w.heap.size; exact hg)]; exact HM.out, by have := HH.out.below.size; have := hu.size; omega⟩)
    have HRI : Hid (∀ u, Below wo.heap.size wo u -> ae u (w.heap.size + 1) (iR w.heap.size) 51) := aa (fun u hu => HH.out.rules.below hu HH.out.rules.lt);have hrlt := HH.out.rules.lt;have HL := aa (fun w => nj s[j].toNat hc w);have HD := aa (fun w => jS s[j].toNat hc w);have HQ := aa (fun w => yl s[j].toNat hc w);cases hl : aV s[j].toNat with
    | true =>
     have HREAD := aa (fun u (hu : Below wo.heap.size wo u) => tE w.heap.size w.heap.size s v j acc mm u hs (HU.out u hu).1 HH.out.n_le hj (HU.out u hu).2.1 (HU.out u hu).2.2 hl);rw [hl] at HL;clear hl;go_wp2_with fail
     go_loopw [57] (fun k wi => ∃ i : Int, k = .int .i64 i /\ 0 <= i /\ i <= 0 /\ Hid (Below wo.heap.size wo wi)) (fun k _ => 4 - (intOf k).toNat)
     case atStart => exact ⟨0, rfl, by omega, by omega, aa (Below.refl _ _)⟩
     case round =>
      have z718528b := trivial;exact Sq718528
    | false =>
     rw [hl] at HL;cases hd : cP s[j].toNat with
     | true =>
      have z463052c := trivial;exact Sq463052
     | false =>
      rw [hd] at HD
      by_cases hq : s[j].toNat = 39
      ·have z463052b := trivial;exact Sq463052
      ·have z463052a := trivial;exact Sq463052
   ·have hj' : ¬ (j : Int) < s.size := by omega
    have HRR : Hid (R = if 4096 <= acc.length then .bad j 8 else .ok (acc ++ [(⟨6, [], 0⟩, j)])) := aa (by
     rw [HH.out.res]; unfold rY; rw [if_pos (List.drop_of_length_le (by rw [HLN.out]; omega))])
    have HPUT : Hid (Calls Tryz.prog 25 #[.pointer (some ⟨w.heap.size, 0, none⟩), .agg #[.int .i64 6, .string ⟨#[]⟩, .int .i64 0, .int .i64 0], .int .i64 0] wo (dB w.heap.size w.heap.size s v j acc ⟨6, [], 0⟩ 0 wo)) := aa (gh w.heap.size w.heap.size s v j acc ⟨6, [], 0⟩ 0 0 wo HH.out.sc HH.out.n_le (by omega));go_wp2_with fail;refine HPUT.out.mono ?_;rintro e w3 hp3;unfold dB at hp3
    by_cases hc : 4096 <= acc.length
    ·rw [if_pos hc] at hp3;obtain ⟨rfl, hm3⟩ := hp3;obtain ⟨v', h1, _, _, h4⟩ := bW.facts (p := j) HH.out.own HH.out.below HH.out.rules hm3;have HB4 := aa h4;have k1 := h1.2.1.cell (i := 1) rfl;clear h1 h4 hm3 c1;go_wp2_with fail
     go_quiet (fail)
     go_wp2_with fail;refine bodyPost_ret (v := .tuple #[.slice none 0 0, .int .i64 j, .int .i64 8]) (by simp [results, Tryz.results7, go_sem]) rfl ⟨?_, aH HB4.out _⟩;rw [HRR.out, if_pos hc]; rfl
    ·rw [if_neg hc] at hp3;obtain ⟨rfl, hm3⟩ := hp3;obtain ⟨v', h1, _, _, h4⟩ := bW.facts (p := j) HH.out.own HH.out.below HH.out.rules hm3;have HB4 := aa h4;have HS3 := aa h1;have k2 := h1.2.1.cell (i := 2) rfl;clear h1 h4 hm3 c1;go_wp2_with fail;refine bodyPost_ret (v := .tuple #[v', .int .i64 0, .int .i64 0]) (by simp [results, Tryz.results7, go_sem]) rfl ⟨?_, HB4.out⟩;rw [HRR.out, if_neg hc];exact ⟨v', rfl, HS3.out.2.2.1⟩
theorem j4 (l : List (am × Nat)) : (bV l).length = l.length * 4 := by
 induction l with
 | nil => rfl
 | cons x l ih => simp only [bV, List.flatMap_cons, List.length_append] at *; rw [ih]; simp [ni]; omega
theorem je {l : List (am × Nat)} {k : Nat} {x : am × Nat} (h : l[k]? = some x) : (bV l)[k * 4]? = some (.int .i64 x.1.k) /\ (bV l)[k * 4 + 1]? = some (.string (ai x.1.t)) /\ (bV l)[k * 4 + 2]? = some (.int .i64 x.1.n) /\ (bV l)[k * 4 + 3]? = some (.int .i64 x.2) := by
 induction l generalizing k with
 | nil => simp at h
 | cons y l ih =>
  have he : bV (y :: l) = ni y ++ bV l := rfl;rw [he];cases k with
  | zero => simp at h; subst h; exact ⟨rfl, rfl, rfl, rfl⟩
  | succ k =>
   have := ih (k := k) (by simpa using h);have hl : (ni y).length = 4 := rfl;have g : ∀ i, (ni y ++ bV l)[(k + 1) * 4 + i]? = (bV l)[k * 4 + i]? := fun i => by
    rw [List.getElem?_append_right (by rw [hl]; omega), hl];congr 1; omega
   exact ⟨by rw [show (k + 1) * 4 = (k + 1) * 4 + 0 from rfl, g 0]; exact this.1, by rw [g 1]; exact this.2.1, by rw [g 2]; exact this.2.2.1, by rw [g 3]; exact this.2.2.2⟩
theorem tI {w : World} {B : Nat} {e : TypeId} {v : Value} {n : Nat} {l : List (am × Nat)} (h : w.ownsRow B e 4 v n (bV l)) {k : Nat} {x : am × Nat} (hk : l[k]? = some x) :
    ∃ g cap, v = .slice (some ⟨g, 0, none⟩) n cap /\ g < w.heap.size /\ w.cell? ⟨g, k * 4, none⟩ = some (.int .i64 x.1.k) /\ w.cell? ⟨g, k * 4 + 1, none⟩ = some (.string (ai x.1.t)) /\ w.cell? ⟨g, k * 4 + 2, none⟩ = some (.int .i64 x.1.n) /\ w.cell? ⟨g, k * 4 + 3, none⟩ = some (.int .i64 x.2) := by
 have hg := je hk;rcases h.2 with ⟨rfl, rfl⟩ | ⟨g, cap, cur, rfl, hb, hh, rest⟩
 ·have := h.1;rw [j4] at this;have hl : l = [] := List.length_eq_zero_iff.1 (by omega);subst hl; simp at hk
 ·have hc := World.ownsRow.cells h (g := g) rfl;have := fun j u hj => by have := hc j u hj; rwa [fu, Nat.zero_add] at this
  exact ⟨g, cap, rfl, (Array.getElem?_eq_some_iff.1 hh).1, this _ _ hg.1, this _ _ hg.2.1, this _ _ hg.2.2.1, this _ _ hg.2.2.2⟩
theorem me : ∀ (f : Nat) (r : List UInt8) (p : Nat) (acc l : List (am × Nat)), acc.length <= 4096 -> db f r p acc = .ok l -> l.length <= 4097
  | 0, _, _, _, _, _, h => by rw [db] at h; cases h
  | f + 1, r, p, acc, l, ha, h => by
    rw [db] at h
    split at h
    · split at h
      · cases h
      · cases h; simp; omega
    · split at h
      · cases h
      · split at h
        · cases h
        · exact me f _ _ _ l (by simp; omega) h
theorem tJ {s : List UInt8} {l : List (am × Nat)} (h : cv s = .ok l) : l.length <= 4097 := by
 unfold cv at h
 split at h
 ·cases h
 ·exact me _ _ _ _ _ (by simp) h
end Go.Proofs.YteljlahcdipilaaGreat
namespace Go.Proofs.YteljlahcdipilaaGreat
open Go.RowKit
/-! Fuel and places. -/
theorem iD (f : Nat -> Bool) (r : List UInt8) : (r.drop (aG f r)).length <= r.length := by rw [List.length_drop]; omega
theorem jf (f : Nat -> Bool) (a r : List UInt8) (h : ∀ c ∈ a, f c.toNat = true) : aG f (a ++ r) = a.length + aG f r := by
 induction a with
 | nil => simp
 | cons c a ih =>
  rw [List.cons_append, fT _ (h c (by simp)), ih (fun d hd => h d (by simp [hd]))];simp; omega
/-! What is written. -/
def dH (t : am) : List UInt8 := jc t.k t.t t.n
theorem fx {r : List UInt8} {t : am} {n : Nat} (h : cu r = .tok t n) :
    (t.k = 2 /\ aV (nb r 0) = true /\ n = aG bf r /\ n <= 64 /\ t.t = bU (r.take n) /\ ew (r.take n) = true /\ t.n = 0) \/
    (t.k = 1 /\ aV (nb r 0) = true /\ n = aG bf r /\ n <= 64 /\ t.t = r.take n /\ ew (r.take n) = false /\ t.n = 0) \/
    (t.k = 3 /\ aV (nb r 0) = false /\ cP (nb r 0) = true /\ n = aG cP r /\ t.t = [] /\ cm (r.take n) = (t.n, 0)) \/
    (t.k = 4 /\ nb r 0 = 39 /\ (∃ rest, qd (r.drop 1) = some (t.t, rest) /\ n = r.length - rest.length) /\ t.n = 0) \/
    (t.k = 5 /\ aV (nb r 0) = false /\ cP (nb r 0) = false /\ nb r 0 ≠ 39 /\ t.t = dj r /\ dj r ≠ [] /\ n = (dj r).length /\ t.n = 0) := by
 unfold cu at h
 split at h
 ·rename_i a
  split at h
  ·cases h
  ·split at h
   ·rename_i b c
    cases h; exact .inl ⟨rfl, a, rfl, by omega, rfl, c, rfl⟩
   ·rename_i b c
    cases h; exact .inr (.inl ⟨rfl, a, rfl, by omega, rfl, by simpa using c, rfl⟩)
 ·rename_i a
  split at h
  ·rename_i b
   split at h
   ·rename_i c
    cases h; exact .inr (.inr (.inl ⟨rfl, by simpa using a, b, rfl, rfl, Prod.ext rfl c⟩))
   ·cases h
  ·rename_i b
   split at h
   ·rename_i c
    split at h
    ·cases h
    ·rename_i x rest hq
     cases h; exact .inr (.inr (.inr (.inl ⟨rfl, c, ⟨rest, hq, rfl⟩, rfl⟩)))
   ·rename_i c
    split at h
    ·cases h
    ·rename_i d
     cases h; exact .inr (.inr (.inr (.inr ⟨rfl, by simpa using a, by simpa using b, c, rfl, d, rfl, rfl⟩)))
theorem gi (l : List UInt8) : (bU l).length = l.length := by simp [bU]
theorem tK : ∀ c : Fin 256, lH (lH (UInt8.ofNat c.val)) = lH (UInt8.ofNat c.val) := by decide +kernel
theorem nr (l : List UInt8) : bU (bU l) = bU l := by
 unfold bU;rw [List.map_map];refine List.map_congr_left (fun c _ => ?_);have := tK ⟨c.toNat, c.toNat_lt⟩;rw [UInt8.ofNat_toNat] at this;exact this
theorem jg {r : List UInt8} {t : am} {n : Nat} (hr : r ≠ []) (h : cu r = .tok t n) (h4 : t.k ≠ 4) : (dH t).length = n := by
 have hsz := eA hr h;have hk : ∀ k : Nat, t.k = k -> k ≠ 3 -> k ≠ 4 -> dH t = t.t := fun k e h3 h4 => by
  unfold dH jc; rw [if_neg (by omega), if_neg (by omega)]
 rcases fx h with ⟨e, _, _, _, ht, _⟩ | ⟨e, _, _, _, ht, _⟩ | ⟨e, _, _, _, _, hp⟩ | ⟨e, _⟩ | ⟨e, _, _, _, ht, _, hn, _⟩
 ·rw [hk 2 e (by decide) (by decide), ht, gi, List.length_take]; omega
 ·rw [hk 1 e (by decide) (by decide), ht, List.length_take]; omega
 ·have ht : dH t = cX t.n := by unfold dH jc; rw [if_pos (by omega)]
  rcases gF (r.take n) with ⟨x, hx, hne⟩ | ⟨m, hm, _, hm2⟩
  ·rw [hx] at hp; injection hp with _ h2; exact absurd h2 hne
  ·rw [hm] at hp; injection hp with h1 _
   rw [ht, <- h1, hm2, List.length_take]; omega
 ·exact absurd e h4
 ·rw [hk 5 e (by decide) (by decide), ht, hn]
end Go.Proofs.YteljlahcdipilaaGreat
namespace Go.Proofs.YteljlahcdipilaaGreat
open Go.RowKit Go.Shelf
theorem mf : ∀ (f : Nat) (r : List UInt8) (p : Nat) (acc : List (am × Nat)) (q : Nat) (x : Int), db f r p acc = .bad q x -> q <= p + r.length /\ x ≠ 0
  | 0, r, p, acc, q, x, h => by rw [db] at h; cases h; exact ⟨by omega, by decide⟩
  | f + 1, r, p, acc, q, x, h => by
    have hle := cU aI r;rw [db] at h
    by_cases hd : r.drop (aG aI r) = []
    · rw [if_pos hd] at h
      split at h
      · cases h; exact ⟨by omega, by decide⟩
      · cases h
    · rw [if_neg hd] at h
      cases ho : cu (r.drop (aG aI r)) with
      | bad e => rw [ho] at h; cases h; exact ⟨by omega, rV ho⟩
      | tok t n =>
        rw [ho] at h;dsimp only at h;have hsz := eA hd ho
        split at h
        · cases h; exact ⟨by omega, by decide⟩
        · have := mf f _ _ _ q x h
          rw [List.length_drop] at hsz;rw [List.length_drop, List.length_drop] at this;exact ⟨by omega, this.2⟩
theorem tL {s : List UInt8} {q : Nat} {x : Int} (h : cv s = .bad q x) : q <= s.length /\ x ≠ 0 := by
 unfold cv at h
 split at h
 ·cases h; exact ⟨by omega, by decide⟩
 ·have := mf _ _ _ _ _ _ h;exact ⟨by omega, this.2⟩
end Go.Proofs.YteljlahcdipilaaGreat
namespace Go.Proofs.YteljlahcdipilaaGreat
open Go.RowKit
theorem gj {f : Nat -> Bool} (T rest : List UInt8) (hT : ∀ c ∈ T, f c.toNat = true) (h : f 32 = false) : aG f (T ++ 32 :: rest) = T.length := by
 rw [jf _ _ _ hT, ie _ (by exact h)]; rfl
theorem ig (f : Nat -> Bool) : ∀ r : List UInt8, ∀ c ∈ r.take (aG f r), f c.toNat = true
  | [], c, h => by simp at h
  | d :: r, c, h => by
    by_cases hd : f d.toNat = true
    · rw [fT r hd, List.take_succ_cons] at h
      rcases List.mem_cons.1 h with rfl | h
      · exact hd
      · exact ig f r c h
    · rw [ie r (by simpa using hd)] at h; simp at h
theorem eW (c : UInt8) (l : List UInt8) : nb (c :: l) 0 = c.toNat := rfl
theorem mg : ∀ c : Fin 256, (aV c.val = true -> aV (lH (UInt8.ofNat c.val)).toNat = true) /\ (bf c.val = true -> bf (lH (UInt8.ofNat c.val)).toNat = true) := by decide +kernel
theorem oV {c : UInt8} (h : aV c.toNat = true) : aV (lH c).toNat = true := by
 have := (mg ⟨c.toNat, c.toNat_lt⟩).1 h;rw [UInt8.ofNat_toNat] at this; exact this
theorem qJ {c : UInt8} (h : bf c.toNat = true) : bf (lH c).toNat = true := by
 have := (mg ⟨c.toNat, c.toNat_lt⟩).2 h;rw [UInt8.ofNat_toNat] at this; exact this
theorem kD : ∀ c : Fin 256, (aV c.val = true -> cP c.val = false /\ aI c.val = false) /\ (cP c.val = true -> aV c.val = false /\ aI c.val = false) := by decide +kernel
theorem iS {n : Nat} (hn : n < 256) (h : aV n = true) : aI n = false := ((kD ⟨n, hn⟩).1 h).2
theorem vw {n : Nat} (hn : n < 256) (h : cP n = true) : aV n = false /\ aI n = false := (kD ⟨n, hn⟩).2 h
theorem qK : ∀ T ∈ fw ++ ej, aV (nb T 0) = false /\ cP (nb T 0) = false /\ nb T 0 ≠ 39 /\ aI (nb T 0) = false /\ T ≠ [] := by decide
theorem tM {r : List UInt8} (h : dj r ≠ []) : dj r ∈ fw ++ ej := by
 unfold dj at h ⊢
 split
 ·rename_i a; exact List.mem_append.2 (.inl a)
 ·rename_i a
  rw [if_neg a] at h
  split
  ·rename_i b; exact List.mem_append.2 (.inr b)
  ·rename_i b; rw [if_neg b] at h; exact absurd rfl h
theorem oW {T : List UInt8} (h : T ∈ fw ++ ej) (rest : List UInt8) : dj (T ++ 32 :: rest) = T := by
 unfold dj;rcases List.mem_append.1 h with h | h
 ·have hl := ey T h;have : (T ++ 32 :: rest).take 2 = T := by rw [List.take_append_of_le_length (by omega), List.take_of_length_le (by omega)]
  rw [this, if_pos h]
 ·have h1 : ∀ T ∈ ej, T.length = 1 /\ ∀ c, T = [c] -> [c, 32] ∉ fw := by
   intro T hT;have : ∀ T ∈ ej, T.length = 1 /\ T ++ [32] ∉ fw := by decide
   exact ⟨(this T hT).1, fun c e => by have := (this T hT).2; rw [e] at this; exact this⟩
  obtain ⟨c, rfl⟩ : ∃ c, T = [c] := List.length_eq_one_iff.1 (h1 T h).1;rw [if_neg (by show ¬ [c, 32] ∈ fw; exact (h1 [c] h).2 c rfl), if_pos (by exact h)];rfl
def Bz (t : am) : Prop := dH t ≠ [] /\ aI (nb (dH t) 0) = false /\ ∀ rest, cu (dH t ++ 32 :: rest) = .tok t (dH t).length
theorem oX {r : List UInt8} {t : am} {n : Nat} (hr : r ≠ []) (h : cu r = .tok t n) : Bz t := by
 have hsz := eA hr h;have hnb : ∀ T rest : List UInt8, T ≠ [] -> nb (T ++ rest) 0 = nb T 0 := fun T rest hT => by
  cases T with
  | nil => exact absurd rfl hT
  | cons c T => rfl
 obtain ⟨k, tt, tn⟩ := t;rcases fx h with ⟨e, hl, hn, h64, ht, hw, h0⟩ | ⟨e, hl, hn, h64, ht, hw, h0⟩ | ⟨e, hl, hd, hn, ht, hp⟩ | ⟨e, hq, ⟨rest0, hqd, _⟩, h0⟩ | ⟨e, hl, hd, hq, ht, hs, hn, h0⟩
 ·dsimp only at e ht h0; subst e h0;obtain ⟨c, q, hcq⟩ : ∃ c q, r = c :: q := by cases r with | nil => exact absurd rfl hr | cons c q => exact ⟨c, q, rfl⟩
  have hall := ig bf r;rw [<- hn] at hall;obtain ⟨m, rfl⟩ : ∃ m, n = m + 1 := ⟨n - 1, by omega⟩;rw [hcq, List.take_succ_cons] at ht hw hall;rw [hcq, eW] at hl;have htw : dH ⟨2, tt, 0⟩ = tt := by unfold dH jc; rw [if_neg (by simp), if_neg (by simp)]
  have hlen : tt.length <= 64 := by rw [ht, gi]; simp; omega
  have hT : ∀ d ∈ tt, bf d.toNat = true := fun d hd => by
   rw [ht] at hd;obtain ⟨x, hx, rfl⟩ := List.mem_map.1 hd;exact qJ (hall x hx)
  have htt : tt = lH c :: bU (q.take m) := ht;have hlt : aV (nb tt 0) = true := by rw [htt, eW]; exact oV hl
  have hne : tt ≠ [] := by rw [htt]; simp
  refine ⟨by rw [htw]; exact hne, by rw [htw]; exact iS (fH _ _) hlt, fun rest => ?_⟩;have hsp := gj tt rest hT (by decide);have htk : (tt ++ 32 :: rest).take tt.length = tt := by simp
  have hlg : bU tt = tt := by rw [ht]; exact nr _
  rw [htw, jw (by rw [hnb _ _ hne]; exact hlt) (by rw [hsp]; omega) (by
   rw [hsp, htk]; unfold ew at hw ⊢; rw [hlg, ht]; exact hw), hsp, htk, hlg]
 ·dsimp only at e ht h0; subst e h0;obtain ⟨c, q, hcq⟩ : ∃ c q, r = c :: q := by cases r with | nil => exact absurd rfl hr | cons c q => exact ⟨c, q, rfl⟩
  have hall := ig bf r;rw [<- hn] at hall;obtain ⟨m, rfl⟩ : ∃ m, n = m + 1 := ⟨n - 1, by omega⟩;rw [hcq, List.take_succ_cons] at ht hw hall;rw [hcq, eW] at hl;have htw : dH ⟨1, tt, 0⟩ = tt := by unfold dH jc; rw [if_neg (by simp), if_neg (by simp)]
  have hlen : tt.length <= 64 := by rw [ht]; simp; omega
  have hT : ∀ d ∈ tt, bf d.toNat = true := fun d hd => by rw [ht] at hd; exact hall d hd
  have hlt : aV (nb tt 0) = true := by rw [ht, eW]; exact hl
  have hne : tt ≠ [] := by rw [ht]; simp
  refine ⟨by rw [htw]; exact hne, by rw [htw]; exact iS (fH _ _) hlt, fun rest => ?_⟩;have hsp := gj tt rest hT (by decide);have htk : (tt ++ 32 :: rest).take tt.length = tt := by simp
  rw [htw, lZ (by rw [hnb _ _ hne]; exact hlt) (by rw [hsp]; omega) (by rw [hsp, htk, ht]; exact hw), hsp, htk]
 ·dsimp only at e ht hp; subst e ht;have htw : dH ⟨3, [], tn⟩ = cX tn := by unfold dH jc; rw [if_pos (by simp)]
  have htx : cX tn = r.take n := by
   rcases gF (r.take n) with ⟨x, hx, hne⟩ | ⟨m, hm, _, hm2⟩
   ·rw [hx] at hp; injection hp with _ h2; exact absurd h2 hne
   ·rw [hm] at hp; injection hp with h1 _; rw [<- h1, hm2]
  obtain ⟨c, q, hcq⟩ : ∃ c q, r = c :: q := by cases r with | nil => exact absurd rfl hr | cons c q => exact ⟨c, q, rfl⟩
  have hall := ig cP r;rw [<- hn] at hall;obtain ⟨m, rfl⟩ : ∃ m, n = m + 1 := ⟨n - 1, by omega⟩;have hdc := hd;rw [hcq, eW] at hdc;have hT : ∀ d ∈ cX tn, cP d.toNat = true := fun d hd => by rw [htx] at hd; exact hall d hd
  have hne : cX tn ≠ [] := by rw [htx, hcq]; simp
  have hdt : cP (nb (cX tn) 0) = true := by rw [htx, hcq, List.take_succ_cons, eW]; exact hdc
  have hx := vw (fH _ _) hdt;refine ⟨by rw [htw]; exact hne, by rw [htw]; exact hx.2, fun rest => ?_⟩;have hsp := gj (cX tn) rest hT (by decide);have htk : (cX tn ++ 32 :: rest).take (cX tn).length = cX tn := by simp
  have hpp : cm (cX tn) = (tn, 0) := by rw [htx]; exact hp
  rw [htw, oM (by rw [hnb _ _ hne]; exact hx.1) (by rw [hnb _ _ hne]; exact hdt) (by rw [hsp, htk, hpp]), hsp, htk, hpp]
 ·dsimp only at e h0; subst e h0;have htw : dH ⟨4, tt, 0⟩ = 39 :: (dD tt ++ [39]) := by unfold dH jc; rw [if_neg (by simp), if_pos (by simp)]
  refine ⟨by rw [htw]; simp, by rw [htw, eW]; decide, fun rest => ?_⟩;rw [htw, vt (by rfl)];have hdr : ((39 :: (dD tt ++ [39]) ++ 32 :: rest : List UInt8).drop 1) = dD tt ++ 39 :: 32 :: rest := by simp
  rw [hdr, ve (32 :: rest) _ tt rfl];dsimp only;congr 1;simp;omega
 ·dsimp only at e ht h0; subst e h0;have htw : dH ⟨5, tt, 0⟩ = tt := by unfold dH jc; rw [if_neg (by simp), if_neg (by simp)]
  have hm := tM hs;rw [<- ht] at hm;obtain ⟨a, b, c, d, hne⟩ := qK tt hm;refine ⟨by rw [htw]; exact hne, by rw [htw]; exact d, fun rest => ?_⟩;rw [htw, l6 (by rw [hnb _ _ hne]; exact a) (by rw [hnb _ _ hne]; exact b) (by rw [hnb _ _ hne]; exact c), oW hm, if_neg hne]
theorem kE : ∀ (f : Nat) (r : List UInt8) (p : Nat) (acc l : List (am × Nat)), db f r p acc = .ok l ->
    ∃ er q, l = acc ++ er ++ [(⟨6, [], 0⟩, q)] /\ (∀ x ∈ er, ∃ r' n, r' ≠ [] /\ r'.length <= r.length /\ cu r' = .tok x.1 n) /\ (acc ++ er).length <= 4095
  | 0, _, _, _, _, h => by rw [db] at h; cases h
  | f + 1, r, p, acc, l, h => by
    rw [db] at h
    by_cases hd : r.drop (aG aI r) = []
    · rw [if_pos hd] at h
      split at h
      · cases h
      · cases h; exact ⟨[], p + aG aI r, by simp, (fun x hx => by cases hx), by simp; omega⟩
    · rw [if_neg hd] at h
      cases ho : cu (r.drop (aG aI r)) with
      | bad e => rw [ho] at h; cases h
      | tok t n =>
        rw [ho] at h;dsimp only at h
        split at h
        · cases h
        · obtain ⟨er, q, h1, h2, h3⟩ := kE f _ _ _ l h
          refine ⟨(t, p + aG aI r) :: er, q, by rw [h1]; simp, (fun x hx => ?_), by simpa using h3⟩;rcases List.mem_cons.1 hx with rfl | hx
          · exact ⟨_, n, hd, iD _ _, ho⟩
          · obtain ⟨r', n', h4, h5, h6⟩ := h2 x hx
            refine ⟨r', n', h4, Nat.le_trans h5 ?_, h6⟩;rw [List.length_drop]; have := iD aI r; omega
theorem gl {s : List UInt8} {l : List (am × Nat)} (h : cv s = .ok l) :
    s.length <= 16384 /\ ∃ er q, l = er ++ [(⟨6, [], 0⟩, q)] /\ (∀ x ∈ er, ∃ r' n, r' ≠ [] /\ r'.length <= s.length /\ cu r' = .tok x.1 n) /\ er.length <= 4095 := by
 unfold cv at h
 split at h
 ·cases h
 ·obtain ⟨er, q, h1, h2, h3⟩ := kE _ _ _ _ _ h;exact ⟨by omega, er, q, by simpa using h1, h2, by simpa using h3⟩
theorem jy {r : List UInt8} {t : am} {n : Nat} (hr : r ≠ []) (h : cu r = .tok t n) (hl : r.length <= 16384) : dP t.n /\ t.t.length <= 16384 /\ (dH t).length <= 65538 := by
 have hsz := eA hr h;have h0 : dP 0 := by unfold dP; omega
 rcases fx h with ⟨e, _, _, _, ht, _, hn0⟩ | ⟨e, _, _, _, ht, _, hn0⟩ | ⟨e, _, _, _, ht, hp⟩ | ⟨e, _, ⟨rest, hq, _⟩, hn0⟩ | ⟨e, _, _, _, ht, _, _, hn0⟩
 ·exact ⟨by rw [hn0]; exact h0, by rw [ht, gi, List.length_take]; omega, by rw [jg hr h (by omega)]; omega⟩
 ·exact ⟨by rw [hn0]; exact h0, by rw [ht, List.length_take]; omega, by rw [jg hr h (by omega)]; omega⟩
 ·refine ⟨?_, by rw [ht]; simp, by rw [jg hr h (by omega)]; omega⟩;rcases gF (r.take n) with ⟨x, hx, hne⟩ | ⟨m, hm, hi, _⟩
  ·rw [hx] at hp; injection hp with _ h2; exact absurd h2 hne
  ·rw [hm] at hp; injection hp with h1 _; rw [<- h1]; exact hi
 ·have hx : t.t.length <= 16384 := by
   rw [vn _ _ rfl] at hq;generalize hf : dk (r.drop 1) = o at hq;cases o with
   | none => cases hq
   | some j =>
    dsimp only at hq;generalize hu : uq ((r.drop 1).take j) = o2 at hq;cases o2 with
    | none => cases hq
    | some y =>
     have hy : y = t.t := by injection hq with hq; injection hq
     have := Aj _ _ rfl y hu;rw [<- hy];rw [List.length_take, List.length_drop] at this;omega
  refine ⟨by rw [hn0]; exact h0, hx, ?_⟩;have hw : dH t = 39 :: (dD t.t ++ [39]) := by unfold dH jc; rw [if_neg (by omega), if_pos (by omega)]
  have := qp t.t;rw [hw]; simp; omega
 ·refine ⟨by rw [hn0]; exact h0, ?_, by rw [jg hr h (by omega)]; omega⟩;rw [ht];have := oL r;omega
end Go.Proofs.YteljlahcdipilaaGreat

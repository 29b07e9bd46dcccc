/- Parts L21, L22, L23, L25, L26, L27 of this seat (pruned, scripts that are alike kept once as default arguments: q1, q2, ..). Conditions: each says its own. -/
import Derived.Deep.DeepCutAuto
import Derived.Laws.EntriesVeiled
import Derived.Test.YteljlahcdipilaaGreatF11
namespace Go.Proofs.YteljlahcdipilaaGreat
set_option maxRecDepth 100000
open Go.RowKit Go.Shelf
set_option linter.unusedSimpArgs false
set_option linter.unusedVariables false
def scanJ (g : Nat) (L : List UInt8) (j : Nat) (acc : List (Tok × Nat)) : ScanR :=
  if L.drop j = [] then (if 4096 ≤ acc.length then .bad j 8 else .ok (acc ++ [(⟨6, [], 0⟩, j)]))
  else match oneL (L.drop j) with
    | .bad e => .bad j e
    | .tok t n => if 4096 ≤ acc.length then .bad j 8 else scanN g (L.drop (j + n)) (j + n) (acc ++ [(t, j)])
def rulesC (b : Nat) : List Value :=
  [.func (.func 15) #[] #[], .func (.func 16) #[.pointer (some ⟨b, 0, none⟩)] #[],
   .func (.func 17) #[] #[], .func (.func 18) #[.pointer (some ⟨b, 0, none⟩)] #[],
   .func (.func 19) #[] #[], .func (.func 20) #[.pointer (some ⟨b, 0, none⟩)] #[],
   .func (.func 21) #[] #[], .func (.func 22) #[.pointer (some ⟨b, 0, none⟩)] #[]]
theorem two_old (w : World) (X Y : Obj) : ((w.alloc X).alloc Y).drew.heap[w.heap.size]? = some X := by
 show ((w.alloc X).alloc Y).heap[w.heap.size]? = _
 rw [Below.heap_alloc _ _ _ (by simp)]
 exact heap_alloc_new w X
structure Head (w : World) (s : ByteArray) (R : ScanR) (g : Nat) (wr : World) (j n : Nat) (v : Value) (acc : List (Tok × Nat)) : Prop where
  sc : Sc wr w.heap.size w.heap.size s j v acc
  own : ∀ x ∈ ownL w.heap.size v, x = w.heap.size ∨ w.heap.size + 1 < x
  rules : Block wr (w.heap.size + 1) (rulesC w.heap.size) 51
  below : Below w.heap.size w wr
  j_le : j ≤ s.size
  n_le : acc.length ≤ 4096
  n_eq : n = acc.length
  res : R = scanJ g s.data.toList j acc
  fuel : s.size - j ≤ g
structure Mid (w : World) (s : ByteArray) (R : ScanR) (g : Nat) (wr : World) (p : Nat) (v : Value) (acc : List (Tok × Nat)) : Prop where
  sc : Sc wr w.heap.size w.heap.size s p v acc
  own : ∀ x ∈ ownL w.heap.size v, x = w.heap.size ∨ w.heap.size + 1 < x
  rules : Block wr (w.heap.size + 1) (rulesC w.heap.size) 51
  below : Below w.heap.size w wr
  p_le : p ≤ s.size
  n_le : acc.length ≤ 4096
  res : R = scanN g (s.data.toList.drop p) p acc
  fuel : s.size - p < g
theorem ScMoved.facts {w u w3 : World} {s : ByteArray} {p p' : Nat} {v : Value} {acc : List (Tok × Nat)} (hown : ∀ x ∈ ownL w.heap.size v, x = w.heap.size ∨ w.heap.size + 1 < x)
    (hB : Below w.heap.size w u) (hr : Block u (w.heap.size + 1) (rulesC w.heap.size) 51) (h : ScMoved w.heap.size w.heap.size s v p' acc u w3) :
    ∃ v', Sc w3 w.heap.size w.heap.size s p' v' acc ∧ (∀ x ∈ ownL w.heap.size v', x = w.heap.size ∨ w.heap.size + 1 < x) ∧ Block w3 (w.heap.size + 1) (rulesC w.heap.size) 51 ∧ Below w.heap.size w w3 := by
 obtain ⟨v', h1, h2, h3⟩ := h
 have hlt := hr.lt
 refine ⟨v', h1, fun x hx => ?_, hr.of_heap (h2.block _ hlt (fun hm => by rcases hown _ hm with e | e <;> omega)), hB.trans (h2.below (fun x hx => by rcases hown x hx with e | e <;> omega) hB.size)⟩
 rcases h3 x hx with h4 | h4
 ·exact hown x h4
 ·exact .inr (by omega)
theorem read_mid {w wr u w3 : World} {s : ByteArray} {R : ScanR} {g j n : Nat} {v : Value} {acc : List (Tok × Nat)} {e : Ending} (H : Head w s R g wr j n v acc) (hj : j < s.size) (hu : Below wr.heap.size wr u)
    (h : ReadP w.heap.size w.heap.size s v j acc (oneL (s.data.toList.drop j)) u e w3) :
    (∃ x v', (x != 0) = true ∧ e = .returned (.int .i64 x) ∧ R = .bad j x ∧ Block w3 w.heap.size [.string s, .int .i64 j, v'] 47 ∧ Below w.heap.size w w3) ∨
    ∃ p v' acc', e = .returned (.int .i64 0) ∧ Mid w s R g w3 p v' acc' := by
 have hl : s.data.toList.length = s.size := by simp
 have hne : s.data.toList.drop j ≠ [] := by intro e; have := congrArg List.length e; rw [List.length_drop, hl] at this; simp at this; omega
 have hr := H.res
 unfold scanJ at hr
 rw [if_neg hne] at hr
 have hB : Below w.heap.size w u := H.below.trans (hu.mono H.below.size)
 have hru : Block u (w.heap.size + 1) (rulesC w.heap.size) 51 := H.rules.below hu H.rules.lt
 cases ho : oneL (s.data.toList.drop j) with
 | bad x =>
  rw [ho] at h hr
  obtain ⟨rfl, hm⟩ := h
  obtain ⟨v', h1, _, _, h4⟩ := ScMoved.facts (p := j) H.own hB hru hm
  have hx := oneL_ne ho
  exact .inl ⟨x, v', by simp [bne, hx], rfl, hr, h1.2.1, h4⟩
 | tok t m =>
  rw [ho] at h hr
  have hsz := oneL_size hne ho
  rw [List.length_drop, hl] at hsz
  have h : PutP w.heap.size w.heap.size s v j acc t m u e w3 := h
  have hr : R = if 4096 ≤ acc.length then .bad j 8 else scanN g (s.data.toList.drop (j + m)) (j + m) (acc ++ [(t, j)]) := hr
  unfold PutP at h
  by_cases hc : 4096 ≤ acc.length
  ·rw [if_pos hc] at h hr
   obtain ⟨rfl, hm⟩ := h
   obtain ⟨v', h1, _, _, h4⟩ := ScMoved.facts (p := j) H.own hB hru hm
   exact .inl ⟨8, v', by decide, rfl, hr, h1.2.1, h4⟩
  ·rw [if_neg hc] at h hr
   obtain ⟨rfl, hm⟩ := h
   obtain ⟨v', h1, h2, h3, h4⟩ := ScMoved.facts (p := j) H.own hB hru hm
   exact .inr ⟨j + m, v', acc ++ [(t, j)], rfl, ⟨h1, h2, h3, h4, by omega, by simp; omega, hr, by have := H.fuel; omega⟩⟩
theorem Mid.head {w wr w4 : World} {s : ByteArray} {R : ScanR} {g p q : Nat} {v : Value} {acc : List (Tok × Nat)} (H : Mid w s R g wr p v acc) (hq : spanB blankB (s.data.toList.drop p) = q) (hh : w4.heap = wr.heap) (hos : w4.os = wr.os) (ht : w4.tape = wr.tape) (hou : w4.output = wr.output) :
    ∃ g', g = g' + 1 ∧ Head w s R g' (w4.setCell ⟨w.heap.size, 1, none⟩ (.int .i64 ((p : Int) + q))) (p + q) acc.length v acc := by
 have hl : s.data.toList.length = s.size := by simp
 have hqs : p + q ≤ s.size := by have := spanB_le blankB (s.data.toList.drop p); rw [hq, List.length_drop, hl] at this; have := H.p_le; omega
 have hf := H.fuel
 refine ⟨g - 1, by omega, ?_⟩
 have hblk : ∀ {b : Nat} {c : List Value} {t : TypeId}, Block wr b c t → Block w4 b c t := fun h => h.of_heap (by rw [hh])
 have hb := (hblk H.sc.2.1).set 1 (.int .i64 ((p : Int) + q))
 have hne : ∀ k, v.ownBlock = some k → k ≠ w.heap.size := H.sc.2.2.2
 refine ⟨⟨H.sc.1, ?_, own_set (own_heap H.sc.2.2.1 (fun k _ => by rw [hh])) hne _, hne⟩, H.own, (hblk H.rules).set_other (by show w.heap.size + 1 ≠ w.heap.size; omega) _, ?_, hqs, H.n_le, rfl, ?_, by omega⟩
 ·rw [show ((p + q : Nat) : Int) = (p : Int) + q from by omega]; exact hb
 ·refine Below.setCell (p := ⟨w.heap.size, 1, none⟩) ⟨hos.trans H.below.os, ht.trans H.below.tape, hou.trans H.below.output, by rw [hh]; exact H.below.size, fun k hk => by rw [hh]; exact H.below.block k hk⟩ (Nat.le_refl _) _
 ·have := scanN_at (g - 1) s.data.toList p (p + q) acc (by omega) (by rw [hq]; omega)
  rw [show g - 1 + 1 = g from by omega] at this
  rw [H.res, this]; rfl
theorem Sq638109 {P : Prop} (h : P := by
 first
 |(
  guard_hyp z638109b
  obtain ⟨i, rfl, hi0, hi1, HBI⟩ := hrel
  have hsi := (HU.out _ HBI.out).1.2.1
  have e0 := hsi.cell (i := 0) rfl
  have e1 := hsi.cell (i := 1) rfl
  have hri := HRI.out _ HBI.out
  have hzi := HBI.out.size
  have hlt1 : w.heap.size < wr.heap.size := by omega
  have hlt2 : w.heap.size + 1 < wr.heap.size := by omega
  have hcase : i = 0 := by omega
  obtain rfl := hcase
  have r0 := hri.cell (i := 0) rfl
  have r1 := hri.cell (i := 1) rfl)
 |(
  first
  |(
   guard_hyp z841850a
   have r0 := hri.cell (i := 6) rfl
   have r1 := hri.cell (i := 7) rfl)
  |(
   guard_hyp z841850b
   have r0 := hri.cell (i := 4) rfl
   have r1 := hri.cell (i := 5) rfl)
  |(
   have r0 := hri.cell (i := 2) rfl
   have r1 := hri.cell (i := 3) rfl))
 clear hsi hri
 go_wp2_with fail
 first
 |(
  guard_hyp z638109a
  first
  | (guard_hyp z841850a; go_quiet ((go_at_call 21; exact Calls.quiet_of_same (isany_any _ _))))
  | (guard_hyp z841850b; go_quiet ((go_at_call 19; exact Calls.quiet_of_same (HQ.out _))))
  | (go_quiet ((go_at_call 17; exact Calls.quiet_of_same (HD.out _)))))
 | (go_quiet ((go_at_call 15; exact Calls.quiet_of_same (HL.out _))))
 go_wp2_with fail
 refine (HREAD.out _ (below_draws (HBI.out.alloc HBI.out.size _) _)).mono ?_
 rintro e w3 hp3
 rcases read_mid HH.out hj (below_draws (HBI.out.alloc HBI.out.size _) _) hp3 with ⟨x, v', hx, rfl, hrr, hb3, hB3⟩ | ⟨p', v', acc', rfl, hmid⟩
 ·have HRR := Lib.hid hrr
  have HB3 := Lib.hid hB3
  have k1 := hb3.cell (i := 1) rfl
  clear hrr hb3 hB3 e0 e1 r0 r1 hp3
  go_wp2_with fail
  go_quiet (fail)
  go_wp2_with fail
  refine bodyPost_ret (v := .tuple #[.slice none 0 0, .int .i64 j, .int .i64 x]) (by simp [results, Tryz.results7, go_sem]) rfl ⟨?_, below_draws HB3.out _⟩
  rw [HRR.out]; rfl
 ·obtain ⟨q, hqq⟩ := nam (spanB blankB (s.data.toList.drop p'))
  have HMID := Lib.hid hmid
  have HQQ := Lib.hid hqq
  have HWH : Hid (∀ u, u.heap = w3.heap → Calls Tryz.prog 23 #[.pointer (some ⟨w.heap.size, 0, none⟩), .func (.func 24) #[] #[]] u (WhileP q u)) := Lib.hid (fun u hu => by
   have := while_blank s p' w.heap.size u v' hs hmid.p_le (hmid.sc.2.1.of_heap (by rw [hu]))
   rw [hqq] at this; exact this)
  have hpq : p' + q ≤ s.size := by have := spanB_le blankB (s.data.toList.drop p'); rw [hqq, List.length_drop, HLN.out] at this; have := hmid.p_le; omega
  have k1 := hmid.sc.2.1.cell (i := 1) rfl
  have f1 := hmid.sc.2.1.free 1
  have s1 : IntKind.i64.wrap ((p' : Int) + q) = (p' : Int) + q := IntWalk.i64_in _ (by omega)
  clear hmid hqq e0 e1 r0 r1 c1 hp3
  go_wp2_with fail
  go_region_law (first | (go_simp; go_at_call 23; refine (HWH.out _ (by rfl)).mono ?_; rintro e w4 ⟨rfl, hm4⟩; have hh4 : w4.heap = w3.heap ∧ w4.os = w3.os ∧ w4.tape = w3.tape ∧ w4.output = w3.output := (by obtain ⟨m, rfl⟩ := hm4; exact ⟨rfl, rfl, rfl, rfl⟩); have hb4 : Block w4 w.heap.size [.string s, .int .i64 p', v'] 47 := HMID.out.sc.2.1.of_heap (by rw [hh4.1]); have k4 := hb4.cell (i := 1) rfl; have f4 := hb4.free 1; have HH4 := Lib.hid hh4; clear hb4 hh4))
  all_goals
   obtain ⟨g', hg', hhead⟩ := HMID.out.head HQQ.out HH4.out.1 HH4.out.2.1 HH4.out.2.2.1 HH4.out.2.2.2
   have HHN := Lib.hid hhead
   have HG := Lib.hid hg'
   clear hg' hhead s1
   go_wp2_with fail
   go_roundg g'
   case measure => have := HG.out; omega
   case rel => exact ⟨_, _, _, _, HHN⟩) : P := h
theorem Sq841850 {P : Prop} (h : P := by
 first
 |(
  guard_hyp z841850a
  have HREAD := Lib.hid (fun u (hu : Below wo.heap.size wo u) => sign_read w.heap.size w.heap.size s v j acc u hs (HU.out u hu).1 HH.out.n_le hj hl hd hq)
  rw [decide_eq_false hq] at HQ
  clear hl hd hq)
 |(
  guard_hyp z841850b
  have HREAD := Lib.hid (fun u (hu : Below wo.heap.size wo u) => quoted_read w.heap.size w.heap.size s v j acc u hs (HU.out u hu).1 HH.out.n_le hj hq)
  rw [decide_eq_true hq] at HQ
  clear hl hd hq)
 |(
  have HREAD := Lib.hid (fun u (hu : Below wo.heap.size wo u) => number_read w.heap.size w.heap.size s v j acc u hs (HU.out u hu).1 HH.out.n_le hj hl hd)
  rw [hd] at HD
  clear hl hd)
 go_wp2_with fail
 first
 | (guard_hyp z841850a; go_loopw [57] (fun k wi => ∃ i : Int, k = .int .i64 i ∧ 0 ≤ i ∧ i ≤ 3 ∧ Hid (Below wo.heap.size wo wi)) (fun k _ => 4 - (intOf k).toNat))
 | (guard_hyp z841850b; go_loopw [57] (fun k wi => ∃ i : Int, k = .int .i64 i ∧ 0 ≤ i ∧ i ≤ 2 ∧ Hid (Below wo.heap.size wo wi)) (fun k _ => 4 - (intOf k).toNat))
 | (go_loopw [57] (fun k wi => ∃ i : Int, k = .int .i64 i ∧ 0 ≤ i ∧ i ≤ 1 ∧ Hid (Below wo.heap.size wo wi)) (fun k _ => 4 - (intOf k).toNat))
 case atStart => exact ⟨0, rfl, by omega, by omega, Lib.hid (Below.refl _ _)⟩
 case round =>
  obtain ⟨i, rfl, hi0, hi1, HBI⟩ := hrel
  have hsi := (HU.out _ HBI.out).1.2.1
  have e0 := hsi.cell (i := 0) rfl
  have e1 := hsi.cell (i := 1) rfl
  have hri := HRI.out _ HBI.out
  have hzi := HBI.out.size
  have hlt1 : w.heap.size < wr.heap.size := by omega
  have hlt2 : w.heap.size + 1 < wr.heap.size := by omega
  first
  |(
   guard_hyp z841850a
   have hcase : i = 0 ∨ i = 1 ∨ i = 2 ∨ i = 3 := by omega
   rcases hcase with rfl | rfl | rfl | rfl)
  |(
   guard_hyp z841850b
   have hcase : i = 0 ∨ i = 1 ∨ i = 2 := by omega
   rcases hcase with rfl | rfl | rfl)
  |(
   have hcase : i = 0 ∨ i = 1 := by omega
   rcases hcase with rfl | rfl)
  ·have r0 := hri.cell (i := 0) rfl
   have r1 := hri.cell (i := 1) rfl
   clear hsi hri
   go_wp2_with fail
   go_quiet ((go_at_call 15; exact Calls.quiet_of_same (HL.out _)))
   go_wp2_with fail
   go_roundw
   case rel => exact ⟨1, rfl, by omega, by omega, Lib.hid (below_draws (HBI.out.alloc HBI.out.size _) _)⟩
   case measure => simp [intOf]
  first
  | (guard_hyp z841850c)
  |(
   ·have r0 := hri.cell (i := 2) rfl
    have r1 := hri.cell (i := 3) rfl
    clear hsi hri
    go_wp2_with fail
    go_quiet ((go_at_call 17; exact Calls.quiet_of_same (HD.out _)))
    go_wp2_with fail
    go_roundw
    case rel => exact ⟨2, rfl, by omega, by omega, Lib.hid (below_draws (HBI.out.alloc HBI.out.size _) _)⟩
    case measure => simp [intOf]
   first
   |(
    guard_hyp z841850a
    ·have r0 := hri.cell (i := 4) rfl
     have r1 := hri.cell (i := 5) rfl
     clear hsi hri
     go_wp2_with fail
     go_quiet ((go_at_call 19; exact Calls.quiet_of_same (HQ.out _)))
     go_wp2_with fail
     go_roundw
     case rel => exact ⟨3, rfl, by omega, by omega, Lib.hid (below_draws (HBI.out.alloc HBI.out.size _) _)⟩
     case measure => simp [intOf])
   | skip)
  ·have z638109a := trivial
   exact Sq638109) : P := h
set_option maxRecDepth 1000000 in
set_option maxHeartbeats 8000000 in
theorem scan_any (s : ByteArray) (mm : Int) (w : World) (hs : s.size ≤ 1099511627776) (hm : w.cell? mlA = some (.int .i64 mm)) (hg : 0 < w.heap.size) :
    Calls Tryz.prog 7 #[.string s] w (ScanP (scanL s.data.toList) w) := by
 have HLN : Hid (s.data.toList.length = s.size) := Lib.hid (by simp)
 obtain ⟨R, hR⟩ := nam (scanL s.data.toList)
 have HR := Lib.hid hR
 rw [hR]
 clear hR
 by_cases hbig : 16384 < s.size
 ·have hbig' : (16384 : Int) < s.size := by omega
  have HRR : Hid (R = .bad 0 8) := Lib.hid (by rw [← HR.out]; unfold scanL; rw [if_pos (by rw [HLN.out]; exact hbig)])
  go_enter Tryz.func7, Tryz.ntmps7
  go_wp2_with fail
  refine bodyPost_ret (v := .tuple #[.slice none 0 0, .int .i64 0, .int .i64 8]) (by simp [results, Tryz.results7, go_sem]) rfl ⟨?_, Below.refl _ _⟩
  rw [HRR.out]; rfl
 have hbig' : ¬ (16384 : Int) < s.size := by omega
 have HR0 : Hid (scanN (s.size + 1) (s.data.toList.drop 0) 0 [] = R) := Lib.hid (by rw [← HR.out]; unfold scanL; rw [if_neg (by rw [HLN.out]; exact hbig), HLN.out]; rfl)
 have HM := Lib.hid hm
 clear hm
 obtain ⟨j0, hj0⟩ := nam (spanB blankB (s.data.toList.drop 0))
 have hj0l : j0 ≤ s.size := by have := spanB_le blankB (s.data.toList.drop 0); rw [hj0, List.length_drop, HLN.out] at this; omega
 have HRJ : Hid (R = scanJ s.size s.data.toList j0 []) := Lib.hid (by rw [← HR0.out, scanN_at s.size s.data.toList 0 j0 [] (by omega) (by rw [hj0]; rfl)]; rfl)
 have HSB0 : Hid (∀ u, u.heap[w.heap.size]? = some (.cells #[.string s, .int .i64 0, .slice none 0 0] 47 (0, 0)) → Calls Tryz.prog 23 #[.pointer (some ⟨w.heap.size, 0, none⟩), .func (.func 24) #[] #[]] u (WhileP j0 u)) := Lib.hid (fun u hu => by
  have := while_blank s 0 w.heap.size u (.slice none 0 0) hs (by omega) hu
  rw [hj0] at this; exact this)
 clear hj0
 have s0 : IntKind.i64.wrap (j0 : Int) = j0 := IntWalk.i64_in _ (by omega)
 have S0 := Lib.hid s0
 clear s0
 go_enter Tryz.func7, Tryz.ntmps7
 go_upto_region 5 with fail
 go_cut [] (fun wx => ∃ n v, Hid (Head w s R s.size wx j0 n v []))
 case first =>
  have s0 := S0.out
  go_region_law (first | (go_simp; go_at_call 23; refine (HSB0.out _ (two_old w _ _)).mono ?_; rintro e w1 ⟨rfl, hm1⟩; have hb1 : Block w1 w.heap.size [.string s, .int .i64 0, .slice none 0 0] 47 := (by obtain ⟨m, rfl⟩ := hm1; exact two_old w _ _); have k1 := hb1.cell (i := 1) rfl; have f1 := hb1.free 1; have hrb : Block w1 (w.heap.size + 1) (rulesC w.heap.size) 51 := (by obtain ⟨m, rfl⟩ := hm1; exact two_new w _ _); have hbl : Below w.heap.size w w1 := (by obtain ⟨m, rfl⟩ := hm1; exact below_draws (((Below.refl _ _).alloc (Nat.le_refl _) _).alloc (by simp) _).drew _); have HB1 := Lib.hid hb1; have HRB := Lib.hid hrb; have HBL := Lib.hid hbl; clear hb1 hrb hbl))
  all_goals
   go_wp2_with fail
   go_meet
   refine ⟨0, .slice none 0 0, Lib.hid ⟨⟨Nat.le_refl _, HB1.out.set 1 _, World.ownsRow_nil _ _ _ _, fun k e => (by cases e)⟩, fun x hx => ?_, HRB.out.set_other (by show w.heap.size + 1 ≠ w.heap.size; omega) _, HBL.out.setCell (p := ⟨w.heap.size, 1, none⟩) (Nat.le_refl _) _, hj0l, by simp, rfl, HRJ.out, by omega⟩⟩
   rcases ownL_cases hx with e | e
   ·exact .inl e
   ·cases e
 case rest =>
  obtain ⟨n0, v0, HH0⟩ := hcut
  clear HSB0
  go_wp2_with fail
  go_loopg [] s.size (fun g wr => ∃ j n v acc, Hid (Head w s R g wr j n v acc))
  case atStart => exact ⟨j0, n0, v0, [], HH0⟩
  case round =>
   clear HH0 HRJ HR0
   obtain ⟨j, n, v, acc, HH⟩ := hrel
   obtain ⟨wo, hwo⟩ : ∃ wo : World, wo = wr := ⟨_, rfl⟩
   subst hwo
   have hjs := HH.out.j_le
   have hbk := HH.out.sc.2.1
   have c1 := hbk.cell (i := 1) rfl
   have hblt := hbk.lt
   clear hbk
   by_cases hj : j < s.size
   ·have hj' : (j : Int) < s.size := by omega
    have hjp : (0 : Int) ≤ (j : Int) := by omega
    have hc : s[j].toNat < 256 := by have := s[j].toNat_lt; omega
    have HU : Hid (∀ u, Below wo.heap.size wo u → Sc u w.heap.size w.heap.size s j v acc ∧ u.cell? mlA = some (.int .i64 mm) ∧ 0 < u.heap.size) := Lib.hid (fun u hu => ⟨HH.out.sc.below hu, by
     have hb : Below w.heap.size w u := HH.out.below.trans (hu.mono HH.out.below.size)
     rw [hb.cell (by show 0 < w.heap.size; exact hg)]; exact HM.out, by have := HH.out.below.size; have := hu.size; omega⟩)
    have HRI : Hid (∀ u, Below wo.heap.size wo u → Block u (w.heap.size + 1) (rulesC w.heap.size) 51) := Lib.hid (fun u hu => HH.out.rules.below hu HH.out.rules.lt)
    have hrlt := HH.out.rules.lt
    have HL := Lib.hid (fun w => pletter_any' s[j].toNat hc w)
    have HD := Lib.hid (fun w => pdigit_any' s[j].toNat hc w)
    have HQ := Lib.hid (fun w => isq_any s[j].toNat hc w)
    cases hl : letter s[j].toNat with
    | true =>
     have HREAD := Lib.hid (fun u (hu : Below wo.heap.size wo u) => name_read w.heap.size w.heap.size s v j acc mm u hs (HU.out u hu).1 HH.out.n_le hj (HU.out u hu).2.1 (HU.out u hu).2.2 hl)
     rw [hl] at HL
     clear hl
     go_wp2_with fail
     go_loopw [57] (fun k wi => ∃ i : Int, k = .int .i64 i ∧ 0 ≤ i ∧ i ≤ 0 ∧ Hid (Below wo.heap.size wo wi)) (fun k _ => 4 - (intOf k).toNat)
     case atStart => exact ⟨0, rfl, by omega, by omega, Lib.hid (Below.refl _ _)⟩
     case round =>
      have z638109b := trivial
      exact Sq638109
    | false =>
     rw [hl] at HL
     cases hd : digt s[j].toNat with
     | true =>
      have z841850c := trivial
      exact Sq841850
     | false =>
      rw [hd] at HD
      by_cases hq : s[j].toNat = 39
      ·have z841850b := trivial
       exact Sq841850
      ·have z841850a := trivial
       exact Sq841850
   ·have hj' : ¬ (j : Int) < s.size := by omega
    have HRR : Hid (R = if 4096 ≤ acc.length then .bad j 8 else .ok (acc ++ [(⟨6, [], 0⟩, j)])) := Lib.hid (by
     rw [HH.out.res]; unfold scanJ; rw [if_pos (List.drop_of_length_le (by rw [HLN.out]; omega))])
    have HPUT : Hid (Calls Tryz.prog 25 #[.pointer (some ⟨w.heap.size, 0, none⟩), .agg #[.int .i64 6, .string ⟨#[]⟩, .int .i64 0, .int .i64 0], .int .i64 0] wo (PutP w.heap.size w.heap.size s v j acc ⟨6, [], 0⟩ 0 wo)) := Lib.hid (put_any w.heap.size w.heap.size s v j acc ⟨6, [], 0⟩ 0 0 wo HH.out.sc HH.out.n_le (by omega))
    go_wp2_with fail
    refine HPUT.out.mono ?_
    rintro e w3 hp3
    unfold PutP at hp3
    by_cases hc : 4096 ≤ acc.length
    ·rw [if_pos hc] at hp3
     obtain ⟨rfl, hm3⟩ := hp3
     obtain ⟨v', h1, _, _, h4⟩ := ScMoved.facts (p := j) HH.out.own HH.out.below HH.out.rules hm3
     have HB4 := Lib.hid h4
     have k1 := h1.2.1.cell (i := 1) rfl
     clear h1 h4 hm3 c1
     go_wp2_with fail
     go_quiet (fail)
     go_wp2_with fail
     refine bodyPost_ret (v := .tuple #[.slice none 0 0, .int .i64 j, .int .i64 8]) (by simp [results, Tryz.results7, go_sem]) rfl ⟨?_, below_draws HB4.out _⟩
     rw [HRR.out, if_pos hc]; rfl
    ·rw [if_neg hc] at hp3
     obtain ⟨rfl, hm3⟩ := hp3
     obtain ⟨v', h1, _, _, h4⟩ := ScMoved.facts (p := j) HH.out.own HH.out.below HH.out.rules hm3
     have HB4 := Lib.hid h4
     have HS3 := Lib.hid h1
     have k2 := h1.2.1.cell (i := 2) rfl
     clear h1 h4 hm3 c1
     go_wp2_with fail
     refine bodyPost_ret (v := .tuple #[v', .int .i64 0, .int .i64 0]) (by simp [results, Tryz.results7, go_sem]) rfl ⟨?_, HB4.out⟩
     rw [HRR.out, if_neg hc]
     exact ⟨v', rfl, HS3.out.2.2.1⟩
theorem tokCells_length (l : List (Tok × Nat)) : (tokCells l).length = l.length * 4 := by
 induction l with
 | nil => rfl
 | cons x l ih => simp only [tokCells, List.flatMap_cons, List.length_append] at *; rw [ih]; simp [tokC]; omega
theorem tokCells_get {l : List (Tok × Nat)} {k : Nat} {x : Tok × Nat} (h : l[k]? = some x) : (tokCells l)[k * 4]? = some (.int .i64 x.1.k) ∧ (tokCells l)[k * 4 + 1]? = some (.string (strOf x.1.t)) ∧ (tokCells l)[k * 4 + 2]? = some (.int .i64 x.1.n) ∧ (tokCells l)[k * 4 + 3]? = some (.int .i64 x.2) := by
 induction l generalizing k with
 | nil => simp at h
 | cons y l ih =>
  have he : tokCells (y :: l) = tokC y ++ tokCells l := rfl
  rw [he]
  cases k with
  | zero => simp at h; subst h; exact ⟨rfl, rfl, rfl, rfl⟩
  | succ k =>
   have := ih (k := k) (by simpa using h)
   have hl : (tokC y).length = 4 := rfl
   have g : ∀ i, (tokC y ++ tokCells l)[(k + 1) * 4 + i]? = (tokCells l)[k * 4 + i]? := fun i => by
    rw [List.getElem?_append_right (by rw [hl]; omega), hl]
    congr 1; omega
   exact ⟨by rw [show (k + 1) * 4 = (k + 1) * 4 + 0 from rfl, g 0]; exact this.1, by rw [g 1]; exact this.2.1, by rw [g 2]; exact this.2.2.1, by rw [g 3]; exact this.2.2.2⟩
theorem tok_cells {w : World} {B : Nat} {e : TypeId} {v : Value} {n : Nat} {l : List (Tok × Nat)} (h : w.ownsRow B e 4 v n (tokCells l)) {k : Nat} {x : Tok × Nat} (hk : l[k]? = some x) :
    ∃ g cap, v = .slice (some ⟨g, 0, none⟩) n cap ∧ g < w.heap.size ∧ w.cell? ⟨g, k * 4, none⟩ = some (.int .i64 x.1.k) ∧ w.cell? ⟨g, k * 4 + 1, none⟩ = some (.string (strOf x.1.t)) ∧ w.cell? ⟨g, k * 4 + 2, none⟩ = some (.int .i64 x.1.n) ∧ w.cell? ⟨g, k * 4 + 3, none⟩ = some (.int .i64 x.2) := by
 have hg := tokCells_get hk
 rcases h.2 with ⟨rfl, rfl⟩ | ⟨g, cap, cur, rfl, hb, hh, rest⟩
 ·have := h.1
  rw [tokCells_length] at this
  have hl : l = [] := List.length_eq_zero_iff.1 (by omega)
  subst hl; simp at hk
 ·have hc := World.ownsRow.cells h (g := g) rfl
  have := fun j u hj => by have := hc j u hj; rwa [addr_add, Nat.zero_add] at this
  exact ⟨g, cap, rfl, (Array.getElem?_eq_some_iff.1 hh).1, this _ _ hg.1, this _ _ hg.2.1, this _ _ hg.2.2.1, this _ _ hg.2.2.2⟩
theorem scanN_len : ∀ (f : Nat) (r : List UInt8) (p : Nat) (acc l : List (Tok × Nat)), acc.length ≤ 4096 → scanN f r p acc = .ok l → l.length ≤ 4097
  | 0, _, _, _, _, _, h => by rw [scanN] at h; cases h
  | f + 1, r, p, acc, l, ha, h => by
    rw [scanN] at h
    split at h
    · split at h
      · cases h
      · cases h; simp; omega
    · split at h
      · cases h
      · split at h
        · cases h
        · exact scanN_len f _ _ _ l (by simp; omega) h
theorem scanL_len {s : List UInt8} {l : List (Tok × Nat)} (h : scanL s = .ok l) : l.length ≤ 4097 := by
 unfold scanL at h
 split at h
 ·cases h
 ·exact scanN_len _ _ _ _ _ (by simp) h
end Go.Proofs.YteljlahcdipilaaGreat
namespace Go.Proofs.YteljlahcdipilaaGreat
set_option maxRecDepth 100000
open Go.RowKit
set_option linter.unusedVariables false
/-! Fuel and places. -/
theorem spanB_drop_le (f : Nat → Bool) (r : List UInt8) : (r.drop (spanB f r)).length ≤ r.length := by rw [List.length_drop]; omega
/-! What is written. -/
def tokW (t : Tok) : List UInt8 := tokT t.k t.t t.n
theorem oneL_taken {r : List UInt8} {t : Tok} {n : Nat} (h : oneL r = .tok t n) :
    (t.k = 2 ∧ letter (nb r 0) = true ∧ n = spanB nchar r ∧ n ≤ 64 ∧ t.t = largeL (r.take n) ∧ wordB (r.take n) = true ∧ t.n = 0) ∨
    (t.k = 1 ∧ letter (nb r 0) = true ∧ n = spanB nchar r ∧ n ≤ 64 ∧ t.t = r.take n ∧ wordB (r.take n) = false ∧ t.n = 0) ∨
    (t.k = 3 ∧ letter (nb r 0) = false ∧ digt (nb r 0) = true ∧ n = spanB digt r ∧ t.t = [] ∧ parseOf (r.take n) = (t.n, 0)) ∨
    (t.k = 4 ∧ nb r 0 = 39 ∧ (∃ rest, qd (r.drop 1) = some (t.t, rest) ∧ n = r.length - rest.length) ∧ t.n = 0) ∨
    (t.k = 5 ∧ letter (nb r 0) = false ∧ digt (nb r 0) = false ∧ nb r 0 ≠ 39 ∧ t.t = signL r ∧ signL r ≠ [] ∧ n = (signL r).length ∧ t.n = 0) := by
 unfold oneL at h
 split at h
 ·rename_i a
  split at h
  ·cases h
  ·split at h
   ·rename_i b c
    cases h; exact .inl ⟨rfl, a, rfl, by omega, rfl, c, rfl⟩
   ·rename_i b c
    cases h; exact .inr (.inl ⟨rfl, a, rfl, by omega, rfl, by simpa using c, rfl⟩)
 ·rename_i a
  split at h
  ·rename_i b
   split at h
   ·rename_i c
    cases h; exact .inr (.inr (.inl ⟨rfl, by simpa using a, b, rfl, rfl, Prod.ext rfl c⟩))
   ·cases h
  ·rename_i b
   split at h
   ·rename_i c
    split at h
    ·cases h
    ·rename_i x rest hq
     cases h; exact .inr (.inr (.inr (.inl ⟨rfl, c, ⟨rest, hq, rfl⟩, rfl⟩)))
   ·rename_i c
    split at h
    ·cases h
    ·rename_i d
     cases h; exact .inr (.inr (.inr (.inr ⟨rfl, by simpa using a, by simpa using b, c, rfl, d, rfl, rfl⟩)))
theorem largeL_len (l : List UInt8) : (largeL l).length = l.length := by simp [largeL]
theorem tokW_len {r : List UInt8} {t : Tok} {n : Nat} (hr : r ≠ []) (h : oneL r = .tok t n) (h4 : t.k ≠ 4) : (tokW t).length = n := by
 have hsz := oneL_size hr h
 have hk : ∀ k : Nat, t.k = k → k ≠ 3 → k ≠ 4 → tokW t = t.t := fun k e h3 h4 => by
  unfold tokW tokT; rw [if_neg (by omega), if_neg (by omega)]
 rcases oneL_taken h with ⟨e, _, _, _, ht, _⟩ | ⟨e, _, _, _, ht, _⟩ | ⟨e, _, _, _, _, hp⟩ | ⟨e, _⟩ | ⟨e, _, _, _, ht, _, hn, _⟩
 ·rw [hk 2 e (by decide) (by decide), ht, largeL_len, List.length_take]; omega
 ·rw [hk 1 e (by decide) (by decide), ht, List.length_take]; omega
 ·have ht : tokW t = textOf t.n := by unfold tokW tokT; rw [if_pos (by omega)]
  rcases parse_cases (r.take n) with ⟨x, hx, hne⟩ | ⟨m, hm, _, hm2⟩
  ·rw [hx] at hp; injection hp with _ h2; exact absurd h2 hne
  ·rw [hm] at hp; injection hp with h1 _
   rw [ht, ← h1, hm2, List.length_take]; omega
 ·exact absurd e h4
 ·rw [hk 5 e (by decide) (by decide), ht, hn]
end Go.Proofs.YteljlahcdipilaaGreat
namespace Go.Proofs.YteljlahcdipilaaGreat
set_option maxRecDepth 100000
open Go.RowKit Go.Shelf
set_option linter.unusedSimpArgs false
set_option linter.unusedVariables false
theorem scanN_bad : ∀ (f : Nat) (r : List UInt8) (p : Nat) (acc : List (Tok × Nat)) (q : Nat) (x : Int), scanN f r p acc = .bad q x → q ≤ p + r.length ∧ x ≠ 0
  | 0, r, p, acc, q, x, h => by rw [scanN] at h; cases h; exact ⟨by omega, by decide⟩
  | f + 1, r, p, acc, q, x, h => by
    have hle := spanB_le blankB r
    rw [scanN] at h
    by_cases hd : r.drop (spanB blankB r) = []
    · rw [if_pos hd] at h
      split at h
      · cases h; exact ⟨by omega, by decide⟩
      · cases h
    · rw [if_neg hd] at h
      cases ho : oneL (r.drop (spanB blankB r)) with
      | bad e => rw [ho] at h; cases h; exact ⟨by omega, oneL_ne ho⟩
      | tok t n =>
        rw [ho] at h
        dsimp only at h
        have hsz := oneL_size hd ho
        split at h
        · cases h; exact ⟨by omega, by decide⟩
        · have := scanN_bad f _ _ _ q x h
          rw [List.length_drop] at hsz
          rw [List.length_drop, List.length_drop] at this
          exact ⟨by omega, this.2⟩
theorem scanL_bad {s : List UInt8} {q : Nat} {x : Int} (h : scanL s = .bad q x) : q ≤ s.length ∧ x ≠ 0 := by
 unfold scanL at h
 split at h
 ·cases h; exact ⟨by omega, by decide⟩
 ·have := scanN_bad _ _ _ _ _ _ h
  exact ⟨by omega, this.2⟩
end Go.Proofs.YteljlahcdipilaaGreat
namespace Go.Proofs.YteljlahcdipilaaGreat
set_option maxRecDepth 100000
open Go.RowKit
set_option linter.unusedVariables false
theorem nb_cons (c : UInt8) (l : List UInt8) : nb (c :: l) 0 = c.toNat := rfl
theorem scanN_form : ∀ (f : Nat) (r : List UInt8) (p : Nat) (acc l : List (Tok × Nat)), scanN f r p acc = .ok l →
    ∃ toks q, l = acc ++ toks ++ [(⟨6, [], 0⟩, q)] ∧ (∀ x ∈ toks, ∃ r' n, r' ≠ [] ∧ r'.length ≤ r.length ∧ oneL r' = .tok x.1 n) ∧ (acc ++ toks).length ≤ 4095
  | 0, _, _, _, _, h => by rw [scanN] at h; cases h
  | f + 1, r, p, acc, l, h => by
    rw [scanN] at h
    by_cases hd : r.drop (spanB blankB r) = []
    · rw [if_pos hd] at h
      split at h
      · cases h
      · cases h; exact ⟨[], p + spanB blankB r, by simp, (fun x hx => by cases hx), by simp; omega⟩
    · rw [if_neg hd] at h
      cases ho : oneL (r.drop (spanB blankB r)) with
      | bad e => rw [ho] at h; cases h
      | tok t n =>
        rw [ho] at h
        dsimp only at h
        split at h
        · cases h
        · obtain ⟨toks, q, h1, h2, h3⟩ := scanN_form f _ _ _ l h
          refine ⟨(t, p + spanB blankB r) :: toks, q, by rw [h1]; simp, (fun x hx => ?_), by simpa using h3⟩
          rcases List.mem_cons.1 hx with rfl | hx
          · exact ⟨_, n, hd, spanB_drop_le _ _, ho⟩
          · obtain ⟨r', n', h4, h5, h6⟩ := h2 x hx
            refine ⟨r', n', h4, Nat.le_trans h5 ?_, h6⟩
            rw [List.length_drop]; have := spanB_drop_le blankB r; omega
theorem scanL_form {s : List UInt8} {l : List (Tok × Nat)} (h : scanL s = .ok l) :
    s.length ≤ 16384 ∧ ∃ toks q, l = toks ++ [(⟨6, [], 0⟩, q)] ∧ (∀ x ∈ toks, ∃ r' n, r' ≠ [] ∧ r'.length ≤ s.length ∧ oneL r' = .tok x.1 n) ∧ toks.length ≤ 4095 := by
 unfold scanL at h
 split at h
 ·cases h
 ·obtain ⟨toks, q, h1, h2, h3⟩ := scanN_form _ _ _ _ _ h
  exact ⟨by omega, toks, q, by simpa using h1, h2, by simpa using h3⟩
theorem tok_small {r : List UInt8} {t : Tok} {n : Nat} (hr : r ≠ []) (h : oneL r = .tok t n) (hl : r.length ≤ 16384) : In64 t.n ∧ t.t.length ≤ 16384 ∧ (tokW t).length ≤ 65538 := by
 have hsz := oneL_size hr h
 have h0 : In64 0 := by unfold In64; omega
 rcases oneL_taken h with ⟨e, _, _, _, ht, _, hn0⟩ | ⟨e, _, _, _, ht, _, hn0⟩ | ⟨e, _, _, _, ht, hp⟩ | ⟨e, _, ⟨rest, hq, _⟩, hn0⟩ | ⟨e, _, _, _, ht, _, _, hn0⟩
 ·exact ⟨by rw [hn0]; exact h0, by rw [ht, largeL_len, List.length_take]; omega, by rw [tokW_len hr h (by omega)]; omega⟩
 ·exact ⟨by rw [hn0]; exact h0, by rw [ht, List.length_take]; omega, by rw [tokW_len hr h (by omega)]; omega⟩
 ·refine ⟨?_, by rw [ht]; simp, by rw [tokW_len hr h (by omega)]; omega⟩
  rcases parse_cases (r.take n) with ⟨x, hx, hne⟩ | ⟨m, hm, hi, _⟩
  ·rw [hx] at hp; injection hp with _ h2; exact absurd h2 hne
  ·rw [hm] at hp; injection hp with h1 _; rw [← h1]; exact hi
 ·have hx : t.t.length ≤ 16384 := by
   rw [raw_qd _ _ rfl] at hq
   generalize hf : rawF (r.drop 1) = o at hq
   cases o with
   | none => cases hq
   | some j =>
    dsimp only at hq
    generalize hu : uq ((r.drop 1).take j) = o2 at hq
    cases o2 with
    | none => cases hq
    | some y =>
     have hy : y = t.t := by injection hq with hq; injection hq
     have := uq_len _ _ rfl y hu
     rw [← hy]
     rw [List.length_take, List.length_drop] at this
     omega
  refine ⟨by rw [hn0]; exact h0, hx, ?_⟩
  have hw : tokW t = 39 :: (quoteL t.t ++ [39]) := by unfold tokW tokT; rw [if_neg (by omega), if_pos (by omega)]
  have := quoteL_len t.t
  rw [hw]; simp; omega
 ·refine ⟨by rw [hn0]; exact h0, ?_, by rw [tokW_len hr h (by omega)]; omega⟩
  rw [ht]
  have := signL_le r
  omega
end Go.Proofs.YteljlahcdipilaaGreat

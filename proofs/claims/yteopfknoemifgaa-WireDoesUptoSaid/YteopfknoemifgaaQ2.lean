/- Layer 9: the reference's Send and Answer. Conditions: the network is there. -/
import Derived.Test.YteopfknoemifgaaQ1
namespace Go.Proofs.Yteopfknoemifgaa
open Go.RowKit
set_option linter.unusedSimpArgs false
set_option linter.unusedVariables false

theorem flat_set {α : Type} {f : α → List Value} {size : Nat} {z' : α} {q : Nat} {v : Value} : ∀ (zs : List α) (k : Nat) (z : α), (∀ o ∈ zs, (f o).length = size) → zs[k]? = some z → q < size → f z' = (f z).set q v → (zs.flatMap f).set (k * size + q) v = (zs.set k z').flatMap f
  | [], k, z, _, hk, _, _ => by simp at hk
  | o :: zs, 0, z, hf, hk, hq, hz => by
    obtain rfl : o = z := by simpa using hk
    have hl := hf o (by simp)
    rw [List.flatMap_cons, List.set_cons_zero, List.flatMap_cons, hz, Nat.zero_mul, Nat.zero_add, List.set_append, if_pos (by omega)]
  | o :: zs, k + 1, z, hf, hk, hq, hz => by
    have hl := hf o (by simp)
    have ih := flat_set zs k z (fun o ho => hf o (by simp [ho])) (by simpa using hk) hq hz
    rw [List.flatMap_cons, List.set_cons_succ, List.flatMap_cons, List.set_append, if_neg (by rw [Nat.succ_mul]; omega), hl, show (k + 1) * size + q - size = k * size + q from by rw [Nat.succ_mul]; omega, ih]
/-- What stands behind a region that calls and stores. -/
def MidG {α β : Type} (A : α → β → Go.Act) (F : α → β → World → World) (R : α → β → World → Prop) : Exit → Go.Act → World → Prop
  | .normal, a, w => ∃ x y w1, R x y w1 ∧ a = A x y ∧ w = F x y w1
  | _, _, _ => False
theorem wp_midG {α β : Type} {P : Program} {c : Code} {Q : Exit → Go.Act → World → Prop} {a : Go.Act} {w : World} (A : α → β → Go.Act) (F : α → β → World → World) (R : α → β → World → Prop)
    (h : c.wp P (MidG A F R) a w) (k : ∀ x y w1, R x y w1 → Q .normal (A x y) (F x y w1)) : c.wp P Q a w := by
  refine Code.wp_mono ?_ h
  intro e a w h
  cases e with
  | normal =>
    obtain ⟨x, y, w1, hr, rfl, rfl⟩ := h
    exact k x y w1 hr
  | _ => exact h.elim
/-- A cell of one of the reference's lines is stored, behind what was made for it. -/
theorem RefX.put {w w1 : World} {B P g n c i q t0 : Nat} {S : Nat → Prop} {T : Nat → Nat} {zs : List Zn} {z z' : Zn} {v : Value} (h : RefX w B P S T (.slice (some ⟨g, 0, none⟩) n c) zs) (hz : zs[i]? = some z)
    (hk : KeptP (fun k => S k ∧ T k = t0) w w1) (ht0 : t0 = 2 * i + 2 ∨ t0 = 2 * i + 3) (hq : q < 4) (hc : cellsN z' = (cellsN z).set q v) (hB : B ≤ w.heap.size)
    (h1 : Win w1 (fun k => (S k ∨ w.heap.size ≤ k ∧ k < w1.heap.size) ∧ (if k < w.heap.size then T k else t0) = 2 * i + 2) z'.v1 z'.x.way)
    (h2 : Win w1 (fun k => (S k ∨ w.heap.size ≤ k ∧ k < w1.heap.size) ∧ (if k < w.heap.size then T k else t0) = 2 * i + 3) z'.v2 z'.x.back) :
    RefX (w1.setCell ⟨g, i * 4 + q, none⟩ v) B P (fun k => S k ∨ w.heap.size ≤ k ∧ k < w1.heap.size) (fun k => if k < w.heap.size then T k else t0) (.slice (some ⟨g, 0, none⟩) n c) (zs.set i z') := by
  obtain ⟨hgS, hgT⟩ := h.sl g rfl
  have hgl := (h.row.lt g rfl).2
  have h0 := h.row
  have hn : n = zs.length := by
    obtain ⟨a, c', e⟩ := own_form h0
    injection e with _ e2 _
  have hsc : ∀ b, b ≠ g → (w1.setCell ⟨g, i * 4 + q, none⟩ v).heap[b]? = w1.heap[b]? := fun b hb => Below.heap_setCell _ _ _ _ hb
  have hsz : (w1.setCell ⟨g, i * 4 + q, none⟩ v).heap.size = w1.heap.size := by simp [World.setCell]
  have hs1 := hk.size
  refine ⟨fun k hk => ?_, .inl h.sP, ?_, ?_, ?_, fun b e => ?_, fun j y hy => ?_⟩
  · rw [hsz]
    rcases hk with hk | hk
    · have := h.bd k hk; omega
    · omega
  · rw [if_pos (h.bd P h.sP).2]; exact h.tP
  · have hPg : P ≠ g := fun e => by have h5 := h.tP; rw [e, hgT] at h5; omega
    exact (h.blk.of_heap (hk.block P h.blk.lt (fun e => by have h5 := e.2; rw [h.tP] at h5; omega))).of_heap (hsc P hPg)
  · subst hn
    have h1 : w1.ownsRow B 66 4 (.slice (some ⟨g, 0, none⟩) zs.length c) zs.length (zs.flatMap cellsN) := own_of_heap h0 fun b e => hk.block b (h0.lt b e).2 (fun e2 => by have h5 := e2.2; rw [(h.sl b e).2] at h5; omega)
    rw [List.length_set, ← flat_set (f := cellsN) zs i z (fun z _ => cellsN_len z) hz hq hc]
    exact (h1.stored _ v).1
  · obtain rfl : g = b := by injection e
    exact ⟨.inl hgS, by rw [if_pos hgl]; exact hgT⟩
  · have hkeep : ∀ (own : Nat → Prop) u l, (∀ k, own k → k ≠ g) → Win w1 own u l → Win (w1.setCell ⟨g, i * 4 + q, none⟩ v) own u l := fun own u l ho hw => hw.same fun k hk _ => ⟨hsc k (ho k hk), hk⟩
    have hng : ∀ t, t ≠ 1 → ∀ k, ((S k ∨ w.heap.size ≤ k ∧ k < w1.heap.size) ∧ (if k < w.heap.size then T k else t0) = t) → k ≠ g := fun t ht k hk e => by
      subst e
      have := hk.2
      rw [if_pos hgl, hgT] at this
      omega
    by_cases hij : i = j
    · subst hij
      rw [List.getElem?_set_self (List.getElem?_eq_some_iff.1 hz).1] at hy
      injection hy with hy
      subst hy
      exact ⟨hkeep _ _ _ (hng _ (by omega)) h1, hkeep _ _ _ (hng _ (by omega)) h2⟩
    · rw [List.getElem?_set_ne hij] at hy
      have hold : ∀ t u l, t ≠ 1 → t ≠ t0 → Win w (fun k => S k ∧ T k = t) u l → Win (w1.setCell ⟨g, i * 4 + q, none⟩ v) (fun k => (S k ∨ w.heap.size ≤ k ∧ k < w1.heap.size) ∧ (if k < w.heap.size then T k else t0) = t) u l := fun t u l ht1 ht2 hw => by
        refine hkeep _ _ _ (hng _ ht1) (hw.same fun k hk2 hlt => ⟨hk.block k hlt (fun e => ht2 (hk2.2.symm.trans e.2)), .inl hk2.1, ?_⟩)
        rw [if_pos hlt]; exact hk2.2
      exact ⟨hold _ _ _ (by omega) (by omega) (h.win j y hy).1, hold _ _ _ (by omega) (by omega) (h.win j y hy).2⟩
theorem RefX.rmoved {w w1 : World} {B P g n c i q t0 : Nat} {S : Nat → Prop} {T : Nat → Nat} {zs : List Zn} {z' : Zn} {v : Value} {N N' : List (Option Line)} (hgS : S g)
    (h : RefX (w1.setCell ⟨g, i * 4 + q, none⟩ v) B P (fun k => S k ∨ w.heap.size ≤ k ∧ k < w1.heap.size) (fun k => if k < w.heap.size then T k else t0) (.slice (some ⟨g, 0, none⟩) n c) (zs.set i z')) (hk : KeptP (fun k => S k ∧ T k = t0) w w1) (hN : zs.map absN = N) (hN' : N' = N.set i (absN z')) :
    RMoved B P S N' w (w1.setCell ⟨g, i * 4 + q, none⟩ v) :=
  ⟨_, ⟨_, _, _, h, by rw [hN', ← hN, List.map_set]⟩, fun k hk => hk.imp_right (fun h => h.1), (hk.mono fun k h => h.1).setCell (.inl hgS) v⟩
theorem Win.drew {w : World} {own : Nat → Prop} {v : Value} {l : List UInt8} (h : Win w own v l) : Win w.drew own v l := h.same fun k hk _ => ⟨rfl, hk⟩
theorem Cells.drew {w : World} {B : Nat} {a : Option Addr} {vs : List Value} (h : Cells B w a vs) : Cells B w.drew a vs := h
theorem KeptP.undrew {w w' : World} {S : Nat → Prop} (h : KeptP S w.drew w') : KeptP S w w' := ⟨h.os, h.tape, h.output, h.size, h.block⟩

set_option maxRecDepth 100000 in
set_option maxHeartbeats 4000000 in
theorem rsend_any {w : World} {B P : Nat} {S : Nat → Prop} {N : List (Option Line)} (h : RefRep w B P S N) (hn : N.length ≤ 140737488351232) (c : Int) (ad : Option Addr) (m cx Bc : Nat) (l : List UInt8) (hm : m = l.length) (hcl : Cells Bc w ad (bys l)) (hnone : ad = none → cx = 0)
    (hz : ∀ (i : Nat) (x : Line), N[i]? = some (some x) → x.cut = false → x.way.length + l.length ≤ 140737488351232) :
    Calls Try.prog 27 #[.pointer (some ⟨P, 0, none⟩), .int .i64 c, .slice ad m cx] w fun e w' => e = .returned (.int .i64 (liveE N c)) ∧ RMoved B P S (sendN N c l) w w' := by
  have HS := Lib.hid (RMoved.same h (Below.refl _ w))
  have HL := Lib.hid (rlive_any h hn c)
  obtain ⟨T, lv, zs, h, hN⟩ := h
  cases hl : lineAt N c with
  | none =>
    have HE : Hid (liveE N c = 23 ∧ sendN N c l = N) := Lib.hid (by have h23 : liveE N c = 23 := (by unfold liveE; rw [hl]); exact ⟨h23, if_neg (by rw [h23]; omega)⟩)
    rw [HE.out.1, HE.out.2]
    rw [HE.out.1] at HL
    clear hl h hcl hz HE hN
    go_enter Try.func27, Try.ntmps27
    go_wp2_with fail
    refine HL.out.mono ?_; rintro e w' ⟨rfl, rfl⟩
    go_wp2_with fail
    go_ret
    exact ⟨rfl, HS.out⟩
  | some p =>
    obtain ⟨i, x⟩ := p
    have hi := (lineAt_some hl).1
    cases hx : x.cut with
    | true =>
      have HE : Hid (liveE N c = 24 ∧ sendN N c l = N) := Lib.hid (by have h24 : liveE N c = 24 := (by unfold liveE; rw [hl]; simp [hx]); exact ⟨h24, if_neg (by rw [h24]; omega)⟩)
      rw [HE.out.1, HE.out.2]
      rw [HE.out.1] at HL
      clear hl h hcl hz hx hi HE hN
      go_enter Try.func27, Try.ntmps27
      go_wp2_with fail
      refine HL.out.mono ?_; rintro e w' ⟨rfl, rfl⟩
      go_wp2_with fail
      go_ret
      exact ⟨rfl, HS.out⟩
    | false =>
      have HE : Hid (liveE N c = 0 ∧ sendN N c l = N.set i (some { x with way := x.way ++ l })) := Lib.hid (by
        have : liveE N c = 0 := by unfold liveE; rw [hl]; simp [hx]
        refine ⟨this, ?_⟩
        unfold sendN setLine; rw [if_pos this, hl])
      rw [HE.out.1, HE.out.2]
      rw [HE.out.1] at HL
      obtain ⟨z, g, cp, a1, a2, c1, c2, hz2, his, hzx, rfl, hlv, e1, e2, ⟨d0, y0, y1, y2, y3, hlt, hle, hf, hne⟩⟩ := h.at hN hn hl
      subst hlv
      have hzz := hz i x hi hx
      have hW := (h.win i z hz2).1
      have HW2 := Lib.hid (h.win i z hz2).2
      rw [e1, hzx] at hW
      have HW := Lib.hid hW
      have HH := Lib.hid h
      have HZ2 := Lib.hid hz2
      obtain ⟨hgS, hgT⟩ := h.sl g rfl
      have hgl := (h.row.lt g rfl).2
      have hPl := h.blk.lt
      have hTP := h.tP
      have HC := Lib.hid hcl
      have HNO := Lib.hid hnone
      have HM := Lib.hid hm
      have HZX := Lib.hid hzx
      have HIS := Lib.hid his
      have HV := Lib.hid e2
      have HN := Lib.hid hN
      have HF := Lib.hid hf
      have f1 := hf (i * 4 + 1)
      have HB : Hid (B ≤ w.heap.size) := Lib.hid (by have := h.bd P h.sP; omega)
      have HBD := Lib.hid h.bd
      have HT2 : Hid (T g ≠ 2 * i + 2 ∧ T P ≠ 2 * i + 2) := Lib.hid (by omega)
      obtain ⟨n, hzn⟩ : ∃ n, zs.length = n := ⟨_, rfl⟩
      obtain ⟨wl, hwl⟩ : ∃ k, x.way.length = k := ⟨_, rfl⟩
      have HZN := Lib.hid hzn
      have HWL := Lib.hid hwl
      rw [hzn] at d0 hlt hle
      rw [hwl] at y1
      have q4 : (i : Int) < n := by omega
      have q5 : ¬ (i : Int) < 0 := by omega
      have q6 : (0 : Int) ≤ i := by omega
      have q7 : (i : Int) + 1 - 1 = i := by omega
      have q8 : IntKind.i64.wrap (i : Int) = i := IntWalk.i64_in _ (by omega)
      have HZZ := Lib.hid hzz
      clear h hN hl hi hx hcl hz hzz hW hz2 his hzx e1 e2 hzn hwl hnone hm hf hTP hgT hn HE HS y2 y0 y3
      go_enter Try.func27, Try.ntmps27
      go_wp2_with fail
      refine HL.out.mono ?_; rintro e w' ⟨rfl, rfl⟩
      go_wp2_with fail
      apply wp_midG (α := Option Addr) (β := Nat) (F := fun x y w3 => w3.setCell ⟨g, i * 4 + 1, none⟩ (.slice x (wl + m) y)) (R := fun a' c' w3 => Win w3 (fun k => (S k ∧ T k = 2 * i + 2) ∨ (w.heap.size ≤ k ∧ k < w3.heap.size)) (.slice a' (wl + m) c') (x.way ++ l) ∧ KeptP (fun k => S k ∧ T k = 2 * i + 2) w w3)
      case h =>
        go_region_law (first | (refine step_append_win (by rfl) _ _ (by rfl) (own := fun k => S k ∧ T k = 2 * i + 2) (a := a1) (n := wl) (c := c1) (l := x.way) (by rfl) (by first | (rw [← HWL.out]; exact HW.out.drew) | (rw [← HWL.out]; exact HW.out)) ad m cx Bc l (by rfl) HM.out HNO.out HC.out HZZ.out ?_; intro a' c' w3 hwin hkp; have k0 := (World.cell?_of_block (a := ⟨P, 0, none⟩) (hkp.block P hPl (fun e => HT2.out.2 e.2))).trans d0; have k3 := (World.cell?_of_block (a := ⟨g, i * 4 + 1, none⟩) (hkp.block g hgl (fun e => HT2.out.1 e.2))).trans y1; have k4 := (World.frozen?_of_block (a := ⟨g, i * 4 + 1, none⟩) (hkp.block g hgl (fun e => HT2.out.1 e.2))).trans f1; have HWIN := Lib.hid hwin; have HKP := Lib.hid hkp; clear hwin hkp))
        all_goals exact ⟨a', c', w3, ⟨HWIN.out, by first | exact HKP.out.undrew | exact HKP.out⟩, rfl, rfl⟩
      rintro a' c' w3 ⟨hwin, hkp⟩
      have HWIN := Lib.hid hwin
      have HKP := Lib.hid hkp
      clear hwin hkp
      go_wp2_with fail
      go_ret
      have hkp := HKP.out
      have hs3 := hkp.size
      refine ⟨rfl, ?_⟩
      have hR := HH.out.put (z' := { z with x := { x with way := x.way ++ l }, v1 := .slice a' (wl + m) c' }) (q := 1) (v := .slice a' (wl + m) c') HZ2.out hkp (by omega) (by omega) (by obtain ⟨zi, zx, zv1, zv2⟩ := z; have := HZX.out; simp only at this; subst this; rfl) HB.out
        (HWIN.out.same fun k hk hlt => ⟨rfl, by rcases hk with hk | hk; exact ⟨.inl hk.1, by rw [if_pos (HBD.out k hk.1).2]; exact hk.2⟩; exact ⟨.inr hk, by rw [if_neg (by omega)]⟩⟩)
        (by have h := HW2.out; rw [HZX.out] at h; exact h.same fun k hk hlt => ⟨hkp.block k hlt (fun e => by have h1 := hk.2; have h2 := e.2; omega), .inl hk.1, by rw [if_pos hlt]; exact hk.2⟩)
      exact hR.rmoved hgS hkp HN.out (by unfold absN; rw [if_pos HIS.out])

set_option maxRecDepth 100000 in
set_option maxHeartbeats 4000000 in
theorem ranswer_any {w : World} {B P : Nat} {S : Nat → Prop} {N : List (Option Line)} (h : RefRep w B P S N) (hn : N.length ≤ 140737488351232) (c : Int) (ad : Option Addr) (m cx Bc : Nat) (l : List UInt8) (hm : m = l.length) (hcl : Cells Bc w ad (bys l)) (hnone : ad = none → cx = 0)
    (hz : ∀ (i : Nat) (x : Line), N[i]? = some (some x) → x.cut = false → x.back.length + l.length ≤ 140737488351232) :
    Calls Try.prog 29 #[.pointer (some ⟨P, 0, none⟩), .int .i64 c, .slice ad m cx] w fun e w' => e = .returned (.int .i64 (liveE N c)) ∧ RMoved B P S (answerN N c l) w w' := by
  have HS := Lib.hid (RMoved.same h (Below.refl _ w))
  have HL := Lib.hid (rlive_any h hn c)
  obtain ⟨T, lv, zs, h, hN⟩ := h
  cases hl : lineAt N c with
  | none =>
    have HE : Hid (liveE N c = 23 ∧ answerN N c l = N) := Lib.hid (by have h23 : liveE N c = 23 := (by unfold liveE; rw [hl]); exact ⟨h23, if_neg (by rw [h23]; omega)⟩)
    rw [HE.out.1, HE.out.2]
    rw [HE.out.1] at HL
    clear hl h hcl hz HE hN
    go_enter Try.func29, Try.ntmps29
    go_wp2_with fail
    refine HL.out.mono ?_; rintro e w' ⟨rfl, rfl⟩
    go_wp2_with fail
    go_ret
    exact ⟨rfl, HS.out⟩
  | some p =>
    obtain ⟨i, x⟩ := p
    have hi := (lineAt_some hl).1
    cases hx : x.cut with
    | true =>
      have HE : Hid (liveE N c = 24 ∧ answerN N c l = N) := Lib.hid (by have h24 : liveE N c = 24 := (by unfold liveE; rw [hl]; simp [hx]); exact ⟨h24, if_neg (by rw [h24]; omega)⟩)
      rw [HE.out.1, HE.out.2]
      rw [HE.out.1] at HL
      clear hl h hcl hz hx hi HE hN
      go_enter Try.func29, Try.ntmps29
      go_wp2_with fail
      refine HL.out.mono ?_; rintro e w' ⟨rfl, rfl⟩
      go_wp2_with fail
      go_ret
      exact ⟨rfl, HS.out⟩
    | false =>
      have HE : Hid (liveE N c = 0 ∧ answerN N c l = N.set i (some { x with back := x.back ++ l })) := Lib.hid (by
        have : liveE N c = 0 := by unfold liveE; rw [hl]; simp [hx]
        refine ⟨this, ?_⟩
        unfold answerN setLine; rw [if_pos this, hl])
      rw [HE.out.1, HE.out.2]
      rw [HE.out.1] at HL
      obtain ⟨z, g, cp, a1, a2, c1, c2, hz2, his, hzx, rfl, hlv, e1, e2, ⟨d0, y0, y1, y2, y3, hlt, hle, hf, hne⟩⟩ := h.at hN hn hl
      subst hlv
      have hzz := hz i x hi hx
      have hW := (h.win i z hz2).2
      have HW2 := Lib.hid (h.win i z hz2).1
      rw [e2, hzx] at hW
      have HW := Lib.hid hW
      have HH := Lib.hid h
      have HZ2 := Lib.hid hz2
      obtain ⟨hgS, hgT⟩ := h.sl g rfl
      have hgl := (h.row.lt g rfl).2
      have hPl := h.blk.lt
      have hTP := h.tP
      have HC := Lib.hid hcl
      have HNO := Lib.hid hnone
      have HM := Lib.hid hm
      have HZX := Lib.hid hzx
      have HIS := Lib.hid his
      have HV := Lib.hid e1
      have HN := Lib.hid hN
      have HF := Lib.hid hf
      have f1 := hf (i * 4 + 2)
      have HB : Hid (B ≤ w.heap.size) := Lib.hid (by have := h.bd P h.sP; omega)
      have HBD := Lib.hid h.bd
      have HT2 : Hid (T g ≠ 2 * i + 3 ∧ T P ≠ 2 * i + 3) := Lib.hid (by omega)
      obtain ⟨n, hzn⟩ : ∃ n, zs.length = n := ⟨_, rfl⟩
      obtain ⟨wl, hwl⟩ : ∃ k, x.back.length = k := ⟨_, rfl⟩
      have HZN := Lib.hid hzn
      have HWL := Lib.hid hwl
      rw [hzn] at d0 hlt hle
      rw [hwl] at y2
      have q4 : (i : Int) < n := by omega
      have q5 : ¬ (i : Int) < 0 := by omega
      have q6 : (0 : Int) ≤ i := by omega
      have q7 : (i : Int) + 1 - 1 = i := by omega
      have q8 : IntKind.i64.wrap (i : Int) = i := IntWalk.i64_in _ (by omega)
      have HZZ := Lib.hid hzz
      clear h hN hl hi hx hcl hz hzz hW hz2 his hzx e1 e2 hzn hwl hnone hm hf hTP hgT hn HE HS y1 y0 y3
      go_enter Try.func29, Try.ntmps29
      go_wp2_with fail
      refine HL.out.mono ?_; rintro e w' ⟨rfl, rfl⟩
      go_wp2_with fail
      apply wp_midG (α := Option Addr) (β := Nat) (F := fun x y w3 => w3.setCell ⟨g, i * 4 + 2, none⟩ (.slice x (wl + m) y)) (R := fun a' c' w3 => Win w3 (fun k => (S k ∧ T k = 2 * i + 3) ∨ (w.heap.size ≤ k ∧ k < w3.heap.size)) (.slice a' (wl + m) c') (x.back ++ l) ∧ KeptP (fun k => S k ∧ T k = 2 * i + 3) w w3)
      case h =>
        go_region_law (first | (refine step_append_win (by rfl) _ _ (by rfl) (own := fun k => S k ∧ T k = 2 * i + 3) (a := a2) (n := wl) (c := c2) (l := x.back) (by rfl) (by first | (rw [← HWL.out]; exact HW.out.drew) | (rw [← HWL.out]; exact HW.out)) ad m cx Bc l (by rfl) HM.out HNO.out HC.out HZZ.out ?_; intro a' c' w3 hwin hkp; have k0 := (World.cell?_of_block (a := ⟨P, 0, none⟩) (hkp.block P hPl (fun e => HT2.out.2 e.2))).trans d0; have k3 := (World.cell?_of_block (a := ⟨g, i * 4 + 2, none⟩) (hkp.block g hgl (fun e => HT2.out.1 e.2))).trans y2; have k4 := (World.frozen?_of_block (a := ⟨g, i * 4 + 2, none⟩) (hkp.block g hgl (fun e => HT2.out.1 e.2))).trans f1; have HWIN := Lib.hid hwin; have HKP := Lib.hid hkp; clear hwin hkp))
        all_goals exact ⟨a', c', w3, ⟨HWIN.out, by first | exact HKP.out.undrew | exact HKP.out⟩, rfl, rfl⟩
      rintro a' c' w3 ⟨hwin, hkp⟩
      have HWIN := Lib.hid hwin
      have HKP := Lib.hid hkp
      clear hwin hkp
      go_wp2_with fail
      go_ret
      have hkp := HKP.out
      have hs3 := hkp.size
      refine ⟨rfl, ?_⟩
      have hR := HH.out.put (z' := { z with x := { x with back := x.back ++ l }, v2 := .slice a' (wl + m) c' }) (q := 2) (v := .slice a' (wl + m) c') HZ2.out hkp (by omega) (by omega) (by obtain ⟨zi, zx, zv1, zv2⟩ := z; have := HZX.out; simp only at this; subst this; rfl) HB.out
        (by have h := HW2.out; rw [HZX.out] at h; exact h.same fun k hk hlt => ⟨hkp.block k hlt (fun e => by have h1 := hk.2; have h2 := e.2; omega), .inl hk.1, by rw [if_pos hlt]; exact hk.2⟩)
        (HWIN.out.same fun k hk hlt => ⟨rfl, by rcases hk with hk | hk; exact ⟨.inl hk.1, by rw [if_pos (HBD.out k hk.1).2]; exact hk.2⟩; exact ⟨.inr hk, by rw [if_neg (by omega)]⟩⟩)
      exact hR.rmoved hgS hkp HN.out (by unfold absN; rw [if_pos HIS.out])
end Go.Proofs.Yteopfknoemifgaa

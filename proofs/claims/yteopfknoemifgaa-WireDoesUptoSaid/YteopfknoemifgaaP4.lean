/- Layer 9: the contracts of the network's methods that write to a line. Conditions: the network is there. -/
import Derived.Test.YteopfknoemifgaaP3
namespace Go.Proofs.Yteopfknoemifgaa
open Go.RowKit
set_option linter.unusedSimpArgs false
set_option linter.unusedVariables false

def setLine (N : List (Option Line)) (c : Int) (f : Line → Option Line) : List (Option Line) := match lineAt N c with
  | some (i, x) => N.set i (f x)
  | none => N
def sendN (N : List (Option Line)) (c : Int) (l : List UInt8) : List (Option Line) := if liveE N c = 0 then setLine N c (fun x => some { x with way := x.way ++ l }) else N
def answerN (N : List (Option Line)) (c : Int) (l : List UInt8) : List (Option Line) := if liveE N c = 0 then setLine N c (fun x => some { x with back := x.back ++ l }) else N
def cutE (N : List (Option Line)) (c : Int) (k : Int) : Int := if liveE N c = 0 then (if k < 0 then 21 else 0) else liveE N c
def cutN (N : List (Option Line)) (c : Int) (k : Int) : List (Option Line) := if cutE N c k = 0 then setLine N c (fun x => some { x with way := x.way.take k.toNat, cut := true }) else N
def takeE (N : List (Option Line)) (c : Int) (k : Int) : Int := if (lineAt N c).isNone then 23 else if k < 0 then 21 else 0
def takeN (N : List (Option Line)) (c : Int) (k : Int) : List (Option Line) := if takeE N c k = 0 then setLine N c (fun x => some { x with way := x.way.drop k.toNat }) else N
def takenN (N : List (Option Line)) (c : Int) (k : Int) : List UInt8 := if takeE N c k = 0 then (match lineAt N c with | some (_, x) => x.way.take k.toNat | none => []) else []
def dropE (N : List (Option Line)) (c : Int) : Int := if (lineAt N c).isNone then 23 else if overN N c then 0 else 25
def dropN (N : List (Option Line)) (c : Int) : List (Option Line) := if dropE N c = 0 then setLine N c (fun _ => none) else N

theorem NetX.nmoved {w w' : World} {B nb : Nat} {S : Nat → Prop} {N : List (Option Line)} {mb : Nat} {T ad : Nat → Nat} (h : NetX w B nb S N mb T ad) {i : Nat} {x x' : Line} (hi : N[i]? = some (some x))
    (hm : LMoved (ad i) (fun k => S k ∧ T k = i + 2) x' w w') : NMoved B nb S (N.set i (some x')) w w' := by
  obtain ⟨own', h1, h2, h3⟩ := hm
  exact ⟨_, h.turn hi h1 h2 h3, fun k hk => hk.elim .inl fun hk => (h2 k hk).1.imp (fun h => h.1) id, h3.mono fun k hk => hk.1⟩

theorem send_any {w : World} {B nb : Nat} {S : Nat → Prop} {N : List (Option Line)} (h : NetRep w B nb S N) (c : Int) (hc : (Lit.int .i64 c).wf = true) (a : Option Addr) (m cap Bc : Nat) (l : List UInt8) (hm : m = l.length) (hcl : Cells Bc w a (bys l)) (hnone : a = none → cap = 0)
    (hz : ∀ (i : Nat) (x : Line), N[i]? = some (some x) → x.cut = false → x.way.length + l.length ≤ 140737488351232) :
    Calls Try.prog 9 #[.pointer (some ⟨nb, 0, none⟩), .int .i64 c, .slice a m cap] w fun e w' => e = .returned (.int .i64 (liveE N c)) ∧ NMoved B nb S (sendN N c l) w w' := by
  have HS := Lib.hid (NMoved.same h (Below.refl _ w))
  obtain ⟨mb, T, ad, h⟩ := h
  subst hm
  cases hl : lineAt N c with
  | none =>
    have HL := Lib.hid (live_none h c hc hl)
    have HE : Hid (liveE N c = 23 ∧ sendN N c l = N) := Lib.hid (by have : liveE N c = 23 := by unfold liveE; rw [hl]
                                                                    exact ⟨this, if_neg (by rw [this]; omega)⟩)
    rw [HE.out.1, HE.out.2]
    clear hl h hc hcl hz
    go_enter Try.func9, Try.ntmps9
    go_wp2_with fail
    refine HL.out.mono ?_; rintro e w' ⟨rfl, rfl⟩
    go_wp2_with fail
    go_ret
    exact ⟨rfl, HS.out⟩
  | some p =>
    obtain ⟨i, x⟩ := p
    have HL := Lib.hid (live_some h c hc hl)
    have hi := (lineAt_some hl).1
    cases hx : x.cut with
    | true =>
      rw [hx] at HL
      have HE : Hid (liveE N c = 24 ∧ sendN N c l = N) := Lib.hid (by have : liveE N c = 24 := by unfold liveE; rw [hl]; simp [hx]
                                                                      exact ⟨this, if_neg (by rw [this]; omega)⟩)
      rw [HE.out.1, HE.out.2]
      clear hl h hc hcl hz hx hi
      simp only [if_true] at HL
      go_enter Try.func9, Try.ntmps9
      go_wp2_with fail
      refine HL.out.mono ?_; rintro e w' ⟨rfl, rfl⟩
      go_wp2_with fail
      go_ret
      exact ⟨rfl, HS.out⟩
    | false =>
      rw [hx] at HL
      have HE : Hid (liveE N c = 0 ∧ sendN N c l = N.set i (some { x with way := x.way ++ l })) := Lib.hid (by
        have : liveE N c = 0 := by unfold liveE; rw [hl]; simp [hx]
        refine ⟨this, ?_⟩
        unfold sendN setLine; rw [if_pos this, hl])
      rw [HE.out.1, HE.out.2]
      have HP := Lib.hid (put_any w (ad i) (fun k => S k ∧ T k = i + 2) x a _ cap Bc l (h.line i x hi) (fun k hk => (h.bd k hk.1).2) rfl hcl hnone (hz i x hi hx))
      have HM := Lib.hid (fun (w' : World) (h' : LMoved (ad i) (fun k => S k ∧ T k = i + 2) { x with way := x.way ++ l } w w') => h.nmoved hi h')
      clear hl h hc hcl hz hx hi
      simp only [Bool.false_eq_true, if_false] at HL
      go_enter Try.func9, Try.ntmps9
      go_wp2_with fail
      refine HL.out.mono ?_; rintro e w' ⟨rfl, rfl⟩
      go_wp2_with fail
      refine HP.out.mono ?_; rintro e w' ⟨rfl, hlm⟩
      have HLM := Lib.hid hlm
      clear hlm
      go_wp2_with fail
      go_ret
      exact ⟨rfl, HM.out _ HLM.out⟩

theorem LMoved.backed {w w' : World} {lb : Nat} {own : Nat → Prop} {x : Line} {a1 a2 : Option Addr} {c1 c2 : Nat} {l : List UInt8} {a' : Option Addr} {cap' : Nat}
    (H1 : Block w lb [.slice a1 x.way.length c1, .slice a2 x.back.length c2, .bool x.cut] 60) (H2 : IsBytes w 0 a1 c1 x.way) (H3 : IsBytes w 0 a2 c2 x.back) (H4 : own lb) (H5 : ∀ y, a1 = some y → own y.block ∧ y.block ≠ lb) (H6 : ∀ y, a2 = some y → own y.block ∧ y.block ≠ lb)
    (H7 : ∀ y z, a1 = some y → a2 = some z → y.block ≠ z.block) (G1 : w'.ownsRow 0 5 1 (.slice a' (x.back.length + l.length) cap') (x.back.length + l.length) (bys x.back ++ bys l)) (G2 : w.grownBy w' (Value.slice a2 x.back.length c2).ownBlock)
    (G3 : (Value.slice a' (x.back.length + l.length) cap').ownBlock = (Value.slice a2 x.back.length c2).ownBlock ∨ (Value.slice a' (x.back.length + l.length) cap').ownBlock = some w.heap.size) :
    Block w' lb [.slice a1 x.way.length c1, .slice a2 x.back.length c2, .bool x.cut] 60 ∧ LMoved lb own { x with back := x.back ++ l } w (w'.setCell ⟨lb, 1, none⟩ (.slice a' (x.back.length + l.length) cap')) := by
  have hb' : Block w' lb [.slice a1 x.way.length c1, .slice a2 x.back.length c2, .bool x.cut] 60 := H1.of_heap (G2.block lb H1.lt (fun e => by
    cases a2 with
    | none => cases e
    | some y => simp [Value.ownBlock] at e; exact (H6 y rfl).2 e.symm))
  refine ⟨hb', fun k => k < w'.heap.size ∧ (own k ∨ w.heap.size ≤ k), ?_, fun k hk => ⟨hk.2, by simpa [World.setCell] using hk.1⟩, ?_⟩
  · have hne : (Value.slice a' (x.back.length + l.length) cap').ownBlock ≠ some lb := by
      have hl := H1.lt
      rcases G3 with e | e
      · rw [e]; intro e2
        cases a2 with
        | none => cases e2
        | some y => simp [Value.ownBlock] at e2; exact (H6 y rfl).2 e2
      · rw [e]; intro e2; injection e2 with e2; omega
    have gI : IsBytes w' 0 a' cap' (x.back ++ l) := by
      unfold IsBytes
      rw [List.length_append, bys_append]; exact G1
    have hy' : ∀ y, a' = some y → (own y.block ∨ w.heap.size ≤ y.block) ∧ y.block ≠ lb := fun y hy => by
      subst hy
      refine ⟨?_, fun e => hne (by simp [Value.ownBlock, e])⟩
      rcases G3 with e | e
      · cases a2 with
        | none => cases e
        | some z => simp [Value.ownBlock] at e; rw [e]; exact .inl (H6 z rfl).1
      · simp [Value.ownBlock] at e; rw [e]; exact .inr (Nat.le_refl _)
    refine ⟨a1, c1, a', cap', ?_, ?_, ?_, ⟨hb'.lt, .inl H4⟩, fun y hy => ⟨⟨?_, .inl (H5 y hy).1⟩, (H5 y hy).2⟩, fun y hy => ⟨⟨(gI.lt y hy).2, (hy' y hy).1⟩, (hy' y hy).2⟩, fun z y hz hy => ?_⟩
    · have := hb'.set 1 (.slice a' (x.back.length + l.length) cap')
      simp only [List.length_append]
      exact this
    · refine (H2.of_heap fun y hy => ?_)
      have hlt2 := (H2.lt y hy).2
      rw [Below.heap_setCell _ _ _ _ (H5 y hy).2]
      refine G2.block _ hlt2 (fun e => ?_)
      cases a2 with
      | none => cases e
      | some z => simp [Value.ownBlock] at e; exact H7 y z hy rfl e
    · exact gI.of_heap fun y hy => Below.heap_setCell _ _ _ _ (hy' y hy).2
    · have := (H2.lt y hy).2; have := G2.size; omega
    · have hlt2 := (H2.lt z hz).2
      subst hy
      rcases G3 with e | e
      · cases a2 with
        | none => cases e
        | some u => simp [Value.ownBlock] at e; rw [e]; exact H7 z u hz rfl
      · simp [Value.ownBlock] at e; omega
  · refine ((KeptP.refl own w).grown G2 (fun k hk => ?_)).setCell (.inl H4) _
    cases a2 with
    | none => cases hk
    | some y => simp [Value.ownBlock] at hk; subst hk; exact .inl (H6 y rfl).1

theorem answer_any {w : World} {B nb : Nat} {S : Nat → Prop} {N : List (Option Line)} (h : NetRep w B nb S N) (c : Int) (hc : (Lit.int .i64 c).wf = true) (a : Option Addr) (m cap Bc : Nat) (l : List UInt8) (hm : m = l.length) (hcl : Cells Bc w a (bys l)) (hnone : a = none → cap = 0)
    (hz : ∀ (i : Nat) (x : Line), N[i]? = some (some x) → x.cut = false → x.back.length + l.length ≤ 140737488351232) :
    Calls Try.prog 14 #[.pointer (some ⟨nb, 0, none⟩), .int .i64 c, .slice a m cap] w fun e w' => e = .returned (.int .i64 (liveE N c)) ∧ NMoved B nb S (answerN N c l) w w' := by
  have HS := Lib.hid (NMoved.same h (Below.refl _ w))
  obtain ⟨mb, T, ad, h⟩ := h
  subst hm
  cases hl : lineAt N c with
  | none =>
    have HL := Lib.hid (live_none h c hc hl)
    have HE : Hid (liveE N c = 23 ∧ answerN N c l = N) := Lib.hid (by have : liveE N c = 23 := by unfold liveE; rw [hl]
                                                                      exact ⟨this, if_neg (by rw [this]; omega)⟩)
    rw [HE.out.1, HE.out.2]
    clear hl h hc hcl hz
    go_enter Try.func14, Try.ntmps14
    go_wp2_with fail
    refine HL.out.mono ?_; rintro e w' ⟨rfl, rfl⟩
    go_wp2_with fail
    go_ret
    exact ⟨rfl, HS.out⟩
  | some p =>
    obtain ⟨i, x⟩ := p
    have HL := Lib.hid (live_some h c hc hl)
    have hi := (lineAt_some hl).1
    cases hx : x.cut with
    | true =>
      rw [hx] at HL
      have HE : Hid (liveE N c = 24 ∧ answerN N c l = N) := Lib.hid (by have : liveE N c = 24 := by unfold liveE; rw [hl]; simp [hx]
                                                                        exact ⟨this, if_neg (by rw [this]; omega)⟩)
      rw [HE.out.1, HE.out.2]
      clear hl h hc hcl hz hx hi
      simp only [if_true] at HL
      go_enter Try.func14, Try.ntmps14
      go_wp2_with fail
      refine HL.out.mono ?_; rintro e w' ⟨rfl, rfl⟩
      go_wp2_with fail
      go_ret
      exact ⟨rfl, HS.out⟩
    | false =>
      rw [hx] at HL
      have HE : Hid (liveE N c = 0 ∧ answerN N c l = N.set i (some { x with back := x.back ++ l })) := Lib.hid (by
        have : liveE N c = 0 := by unfold liveE; rw [hl]; simp [hx]
        refine ⟨this, ?_⟩
        unfold answerN setLine; rw [if_pos this, hl])
      rw [HE.out.1, HE.out.2]
      obtain ⟨i0, hi0, hz0, hz1, hz2⟩ := info_parts Try.infoB
      have HM := Lib.hid (fun (w' : World) (h' : LMoved (ad i) (fun k => S k ∧ T k = i + 2) { x with back := x.back ++ l } w w') => h.nmoved hi h')
      obtain ⟨a1, c1, a2, c2, h1, h2, h3, h4, h5, h6, h7⟩ := h.line i x hi
      have d1 := h1.cell (i := 1) rfl
      have hzz := hz i x hi hx
      have H3 := Lib.hid h3
      have HB := Lib.hid (fun (w' : World) (a' : Option Addr) (cap' : Nat) => LMoved.backed (own := fun k => S k ∧ T k = i + 2) (w' := w') (l := l) (a' := a') (cap' := cap') h1 h2 h3 h4 h5 h6 h7)
      have HC := Lib.hid hcl
      have HN := Lib.hid hnone
      clear hl h hc hcl hz hx hi h1 h2 h3 h4 h5 h6 h7 hnone
      simp only [Bool.false_eq_true, if_false] at HL
      go_enter Try.func14, Try.ntmps14
      go_wp2_with fail
      refine HL.out.mono ?_; rintro e w' ⟨rfl, rfl⟩
      go_wp2_with (at_builtin; refine wpList_append_rows rfl _ _ 30 rfl 0 5 i0 _ 1 1 Try.underlying30 hi0 hz0 hz1 hz2 rfl (by decide) _ x.back.length (bys x.back) rfl H3.out a l.length cap Bc (bys l) rfl HN.out (by simp [bys_length]) HC.out (bys_one l) (by unfold maxLen; omega) (by omega) (by simp) ?_)
      intro a' cap' w1 g1 g2 g3
      have hb := HB.out w1 a' cap' g1 g2 g3
      have f1 := hb.1.free 1
      have e1 := hb.1.cell (i := 1) rfl
      have HLM := Lib.hid hb.2
      clear hb g1 g2 g3
      go_wp2_with fail
      go_ret
      exact ⟨rfl, HM.out _ HLM.out⟩
end Go.Proofs.Yteopfknoemifgaa

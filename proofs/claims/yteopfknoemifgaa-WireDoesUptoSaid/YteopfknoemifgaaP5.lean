/- Layer 9: the contracts of Take, Cut, Drop, New. Conditions: the network is there. -/
import Derived.Test.YteopfknoemifgaaP4
namespace Go.Proofs.Yteopfknoemifgaa
open Go.RowKit
set_option linter.unusedSimpArgs false
set_option linter.unusedVariables false

theorem LineRep.setWay {w : World} {lb : Nat} {own : Nat → Prop} {x : Line} (h : LineRep w lb own x) {B0 : Nat} {a : Option Addr} {c : Nat} {l : List UInt8} (hi : IsBytes w B0 a c l) (ha : ∀ y, a = some y → ¬ own y.block) :
    LineRep (w.setCell ⟨lb, 0, none⟩ (.slice a l.length c)) lb (fun k => own k ∨ ∃ y, a = some y ∧ y.block = k) { x with way := l } := by
  obtain ⟨a1, c1, a2, c2, h1, h2, h3, h4, h5, h6, h7⟩ := h
  have hne : ∀ y, a = some y → y.block ≠ lb := fun y hy e => ha y hy (e ▸ h4)
  refine ⟨a, c, a2, c2, h1.set 0 _, (hi.mono (Nat.zero_le _)).of_heap fun y hy => Below.heap_setCell _ _ _ _ (hne y hy), h3.of_heap fun y hy => Below.heap_setCell _ _ _ _ (h6 y hy).2, .inl h4,
    fun y hy => ⟨.inr ⟨y, hy, rfl⟩, hne y hy⟩, fun y hy => ⟨.inl (h6 y hy).1, (h6 y hy).2⟩, fun y z hy hz e => ha y hy (e ▸ (h6 z hz).1)⟩
theorem LineRep.setCut {w : World} {lb : Nat} {own : Nat → Prop} {x : Line} (h : LineRep w lb own x) : LineRep (w.setCell ⟨lb, 2, none⟩ (.bool true)) lb own { x with cut := true } := by
  obtain ⟨a1, c1, a2, c2, h1, h2, h3, h4, h5, h6, h7⟩ := h
  exact ⟨a1, c1, a2, c2, h1.set 2 _, h2.of_heap fun y hy => Below.heap_setCell _ _ _ _ (h5 y hy).2, h3.of_heap fun y hy => Below.heap_setCell _ _ _ _ (h6 y hy).2, h4, h5, h6, h7⟩

/-- What Take has done. -/
def NTook (B nb : Nat) (S : Nat → Prop) (N' : List (Option Line)) (l : List UInt8) (er : Int) (w : World) (e : Ending) (w' : World) : Prop :=
  ∃ a c, e = .returned (.tuple #[.slice a l.length c, .int .i64 er]) ∧ IsBytes w' w.heap.size a c l ∧ ∃ S' : Nat → Prop, NetRep w' B nb S' N' ∧ (∀ k, S' k → S k ∨ w.heap.size ≤ k) ∧ KeptP S w w' ∧ ∀ y, a = some y → ¬ S' y.block
theorem NTook.none {w w' : World} {B nb : Nat} {S : Nat → Prop} {N : List (Option Line)} (h : NetRep w B nb S N) (er : Int) : NTook B nb S N [] er w (.returned (.tuple #[.slice .none 0 0, .int .i64 er])) w :=
  ⟨.none, 0, rfl, World.ownsRow_nil _ _ _ _, S, h, fun k hk => .inl hk, KeptP.refl _ _, fun y hy => by cases hy⟩

set_option maxHeartbeats 1000000 in
theorem take_net {w : World} {B nb : Nat} {S : Nat → Prop} {N : List (Option Line)} (h : NetRep w B nb S N) (c k : Int) (hc : (Lit.int .i64 c).wf = true) (hk : k ≤ 9223372036854775807)
    (hz : ∀ (i : Nat) (x : Line), N[i]? = some (some x) → x.way.length ≤ 140737488351232) :
    Calls Try.prog 10 #[.pointer (some ⟨nb, 0, none⟩), .int .i64 c, .int .i64 k] w (NTook B nb S (takeN N c k) (takenN N c k) (takeE N c k) w) := by
  have HS := Lib.hid (fun er => NTook.none (w' := w) h er)
  obtain ⟨mb, T, ad, h⟩ := h
  have hlk := h.look hc
  have d1 := h.blk.cell (i := 1) rfl
  cases hl : lineAt N c with
  | none =>
    have HE : takeE N c k = 23 ∧ takeN N c k = N ∧ takenN N c k = [] := by
      have : takeE N c k = 23 := by unfold takeE; rw [hl]; rfl
      exact ⟨this, if_neg (by rw [this]; omega), if_neg (by rw [this]; omega)⟩
    rw [HE.1, HE.2.1, HE.2.2]
    rw [show netMap N ad c = none from by unfold netMap; rw [hl]; rfl] at hlk
    simp only [Option.getD] at hlk
    clear hl h hc HE hz
    go_enter Try.func10, Try.ntmps10
    go_wp2_with fail
    go_ret2
    exact HS.out 23
  | some p =>
    obtain ⟨i, x⟩ := p
    have hi := (lineAt_some hl).1
    rw [show netMap N ad c = some (.pointer (some ⟨ad i, 0, none⟩)) from by unfold netMap; rw [hl]; rfl] at hlk
    simp only [Option.getD] at hlk
    by_cases hk0 : k < 0
    · have HE : takeE N c k = 21 ∧ takeN N c k = N ∧ takenN N c k = [] := by
        have : takeE N c k = 21 := by unfold takeE; rw [hl, if_neg (by simp), if_pos hk0]
        exact ⟨this, if_neg (by rw [this]; omega), if_neg (by rw [this]; omega)⟩
      rw [HE.1, HE.2.1, HE.2.2]
      clear hl h hc HE hz hi
      go_enter Try.func10, Try.ntmps10
      go_wp2_with fail
      go_ret2
      exact HS.out 21
    · obtain ⟨n, rfl⟩ : ∃ n : Nat, k = n := ⟨k.toNat, by omega⟩
      have HE : takeE N c n = 0 ∧ takeN N c n = N.set i (some { x with way := x.way.drop n }) ∧ takenN N c n = x.way.take n := by
        have : takeE N c n = 0 := by unfold takeE; rw [hl, if_neg (by simp), if_neg hk0]
        refine ⟨this, ?_, ?_⟩
        · unfold takeN setLine; rw [if_pos this, hl]; simp
        · unfold takenN; rw [if_pos this, hl]; simp
      rw [HE.1, HE.2.1, HE.2.2]
      obtain ⟨q, hq⟩ : ∃ q, n ≤ x.way.length ∧ q = n ∨ x.way.length < n ∧ q = x.way.length := by
        by_cases h : n ≤ x.way.length
        · exact ⟨n, .inl ⟨h, rfl⟩⟩
        · exact ⟨_, .inr ⟨by omega, rfl⟩⟩
      have HQ : Hid (x.way.take n = x.way.take q ∧ x.way.drop n = x.way.drop q ∧ q = (x.way.take q).length) := Lib.hid (by
        rcases hq with ⟨h, rfl⟩ | ⟨h, rfl⟩
        · exact ⟨rfl, rfl, by simp; omega⟩
        · exact ⟨by rw [List.take_of_length_le (by omega), List.take_of_length_le (by omega)], by rw [List.drop_of_length_le (by omega), List.drop_of_length_le (by omega)], by simp⟩)
      have HT := Lib.hid (take_any w (ad i) (fun k => S k ∧ T k = i + 2) x n q (h.line i x hi) (fun k hk => (h.bd k hk.1).2) (hz i x hi) hq (by omega))
      have HF := Lib.hid (fun (w' : World) (x' : Line) (own' : Nat → Prop) => h.turn (w' := w') (x' := x') (own' := own') hi)
      have HBD := Lib.hid h.bd
      rw [HQ.out.1, HQ.out.2.1]
      have hn0 : (0 : Int) ≤ n := by omega
      clear hl h hc HE hz hi hq hk0
      go_enter Try.func10, Try.ntmps10
      go_wp2_with fail
      refine HT.out.mono ?_; rintro e w' ⟨a, cp, rfl, i1, own', l1, o1, k1, n1⟩
      have HI := Lib.hid i1
      have HL := Lib.hid l1
      have HO := Lib.hid o1
      have HK := Lib.hid k1
      have HN := Lib.hid n1
      clear i1 l1 o1 k1 n1
      go_wp2_with fail
      go_ret2
      refine ⟨a, cp, by rw [← HQ.out.2.2]; rfl, HI.out, fun k => S k ∨ own' k, HF.out w' _ own' HL.out HO.out HK.out, fun k hk => hk.elim .inl fun hk => (HO.out k hk).1.imp (fun h => h.1) id, HK.out.mono fun k hk => hk.1, fun y hy hk => ?_⟩
      rcases hk with hk | hk
      · have := (HI.out.lt y hy).1; have := (HBD.out _ hk).2; omega
      · exact HN.out y hy hk

set_option maxHeartbeats 1000000 in
theorem cut_any {w : World} {B nb : Nat} {S : Nat → Prop} {N : List (Option Line)} (h : NetRep w B nb S N) (c k : Int) (hc : (Lit.int .i64 c).wf = true) (hk : k ≤ 9223372036854775807)
    (hz : ∀ (i : Nat) (x : Line), N[i]? = some (some x) → x.way.length ≤ 140737488351232) :
    Calls Try.prog 13 #[.pointer (some ⟨nb, 0, none⟩), .int .i64 c, .int .i64 k] w fun e w' => e = .returned (.int .i64 (cutE N c k)) ∧ NMoved B nb S (cutN N c k) w w' := by
  have HS := Lib.hid (NMoved.same h (Below.refl _ w))
  obtain ⟨mb, T, ad, h⟩ := h
  cases hl : lineAt N c with
  | none =>
    have HL := Lib.hid (live_none h c hc hl)
    have HE : cutE N c k = 23 ∧ cutN N c k = N := by
      have h1 : liveE N c = 23 := by unfold liveE; rw [hl]
      have : cutE N c k = 23 := by unfold cutE; rw [h1, if_neg (by omega)]
      exact ⟨this, if_neg (by rw [this]; omega)⟩
    rw [HE.1, HE.2]
    clear hl h hc hz HE
    go_enter Try.func13, Try.ntmps13
    go_wp2_with fail
    refine HL.out.mono ?_; rintro e w' ⟨rfl, rfl⟩
    go_wp2_with fail
    go_ret
    exact ⟨rfl, HS.out⟩
  | some p =>
    obtain ⟨i, x⟩ := p
    have HL := Lib.hid (live_some h c hc hl)
    have hi := (lineAt_some hl).1
    cases hx : x.cut with
    | true =>
      rw [hx] at HL
      have HE : cutE N c k = 24 ∧ cutN N c k = N := by
        have h1 : liveE N c = 24 := by unfold liveE; rw [hl]; simp [hx]
        have : cutE N c k = 24 := by unfold cutE; rw [h1, if_neg (by omega)]
        exact ⟨this, if_neg (by rw [this]; omega)⟩
      rw [HE.1, HE.2]
      clear hl h hc hz hx hi HE
      simp only [if_true] at HL
      go_enter Try.func13, Try.ntmps13
      go_wp2_with fail
      refine HL.out.mono ?_; rintro e w' ⟨rfl, rfl⟩
      go_wp2_with fail
      go_ret
      exact ⟨rfl, HS.out⟩
    | false =>
      rw [hx] at HL
      simp only [Bool.false_eq_true, if_false] at HL
      have h1 : liveE N c = 0 := by unfold liveE; rw [hl]; simp [hx]
      by_cases hk0 : k < 0
      · have HE : cutE N c k = 21 ∧ cutN N c k = N := by
          have : cutE N c k = 21 := by unfold cutE; rw [if_pos h1, if_pos hk0]
          exact ⟨this, if_neg (by rw [this]; omega)⟩
        rw [HE.1, HE.2]
        clear hl h hc hz hx hi HE h1
        go_enter Try.func13, Try.ntmps13
        go_wp2_with fail
        refine HL.out.mono ?_; rintro e w' ⟨rfl, rfl⟩
        go_wp2_with fail
        go_ret
        exact ⟨rfl, HS.out⟩
      · obtain ⟨n, rfl⟩ : ∃ n : Nat, k = n := ⟨k.toNat, by omega⟩
        have HE : cutE N c n = 0 ∧ cutN N c n = N.set i (some { x with way := x.way.take n, cut := true }) := by
          have : cutE N c n = 0 := by unfold cutE; rw [if_pos h1, if_neg hk0]
          refine ⟨this, ?_⟩
          unfold cutN setLine; rw [if_pos this, hl]; simp
        rw [HE.1, HE.2]
        obtain ⟨q, hq⟩ : ∃ q, n ≤ x.way.length ∧ q = n ∨ x.way.length < n ∧ q = x.way.length := by
          by_cases h : n ≤ x.way.length
          · exact ⟨n, .inl ⟨h, rfl⟩⟩
          · exact ⟨_, .inr ⟨by omega, rfl⟩⟩
        have HQ : Hid (x.way.take n = x.way.take q ∧ q = (x.way.take q).length) := Lib.hid (by
          rcases hq with ⟨h, rfl⟩ | ⟨h, rfl⟩
          · exact ⟨rfl, by simp; omega⟩
          · exact ⟨by rw [List.take_of_length_le (by omega), List.take_of_length_le (by omega)], by simp⟩)
        have hr := h.line i x hi
        have hr1 := hr.setCut
        obtain ⟨a1, c1, a2, c2, g1, _⟩ := hr
        have f2 := g1.free 2
        have e2 := g1.cell (i := 2) rfl
        have HT := Lib.hid (take_any (w.setCell ⟨ad i, 2, none⟩ (.bool true)) (ad i) (fun k => S k ∧ T k = i + 2) { x with cut := true } n q hr1 (fun k hk => by simpa [World.setCell] using (h.bd k hk.1).2) (hz i x hi) hq (by omega))
        have HF := Lib.hid (fun (w' : World) (x' : Line) (h' : LMoved (ad i) (fun k => S k ∧ T k = i + 2) x' w w') => h.nmoved hi h')
        have HOwn : Hid (S (ad i) ∧ T (ad i) = i + 2) := Lib.hid (by obtain ⟨a1, c1, a2, c2, _, _, _, h4, _⟩ := h.line i x hi; exact h4)
        have HBD := Lib.hid h.bd
        have HR1 := Lib.hid hr1
        rw [HQ.out.1]
        have hn0 : (0 : Int) ≤ n := by omega
        clear hl h hc HE hz hi hq hk0 h1 hx g1 hr1
        go_enter Try.func13, Try.ntmps13
        go_wp2_with fail
        refine HL.out.mono ?_; rintro e w' ⟨rfl, rfl⟩
        go_wp2_with fail
        refine HT.out.mono ?_; rintro e w2 ⟨a, cp, rfl, i1, own', l1, o1, k1, n1⟩
        have HI := Lib.hid i1
        have HN := Lib.hid n1
        have HO := Lib.hid o1
        have HK := Lib.hid k1
        have HL1 := Lib.hid l1
        obtain ⟨b1, d1, b2, d2, m1, m2, m3, m4, _⟩ := l1
        have f0 := m1.free 0
        have e0 := m1.cell (i := 0) rfl
        have HLT := Lib.hid m1.lt
        clear i1 n1 o1 k1 m1 m2 m3 m4
        go_wp2_with fail
        go_ret
        refine ⟨rfl, HF.out _ _ ?_⟩
        have hsz : (w.setCell ⟨ad i, 2, none⟩ (.bool true)).heap.size = w.heap.size := by simp [World.setCell]
        refine ⟨fun k => own' k ∨ ∃ y, a = some y ∧ y.block = k, ?_, fun k hk => ?_, ?_⟩
        · have := HL1.out.setWay HI.out HN.out
          rw [← HQ.out.2] at this
          exact this
        · rcases hk with hk | ⟨y, hy, rfl⟩
          · obtain ⟨h3, h4⟩ := HO.out k hk
            exact ⟨h3.imp_right (fun h => by omega), by simpa [World.setCell] using h4⟩
          · have := HI.out.lt y hy
            exact ⟨.inr (by omega), by simpa [World.setCell] using this.2⟩
        · refine KeptP.setCell ?_ (.inl HOwn.out) _
          exact ((KeptP.refl _ w).setCell (.inl HOwn.out) _).trans HK.out (fun k hk => .inl hk)

theorem NetX.dropped {w w' : World} {B nb : Nat} {S : Nat → Prop} {N : List (Option Line)} {mb : Nat} {T ad : Nat → Nat} (h : NetX w B nb S N mb T ad) {c : Int} {i : Nat} {x : Line} (hi : lineAt N c = some (i, x))
    (hm : MapIs w' KI mb N.length (fun y => if y = c then none else netMap N ad y)) (hg : w.grownBy w' (some mb)) (hs : w'.heap.size = w.heap.size) : NMoved B nb S (N.set i none) w w' := by
  obtain ⟨h1, hci⟩ := lineAt_some hi
  have hil : i < N.length := (List.getElem?_eq_some_iff.1 h1).1
  have hne : nb ≠ mb := fun e => by have h2 := h.tnb; have h3 := h.tmb; rw [e, h3] at h2; omega
  refine ⟨S, ⟨mb, T, ad, ⟨fun k hk => by rw [hs]; exact h.bd k hk, h.snb, h.smb, h.tnb, h.tmb, ?_, ?_, fun j y hy => ?_⟩⟩, fun k hk => .inl hk, ⟨hg.os, hg.tape, hg.output, hg.size, fun k hk hn => hg.block k hk (fun e => by injection e with e; subst e; exact hn h.smb)⟩⟩
  · rw [List.length_set]
    exact h.blk.of_heap (hg.block nb (h.bd nb h.snb).2 (fun e => by injection e with e; exact hne e))
  · rw [List.length_set]
    refine hm.congr fun y _ => ?_
    unfold netMap lineAt
    by_cases hy1 : 1 ≤ y
    · simp only [hy1, if_true]
      by_cases hyc : y = c
      · subst hyc
        rw [show (y - 1).toNat = i from by omega, List.getElem?_set_self hil]
        simp
      · rw [if_neg hyc, List.getElem?_set_ne (by omega)]
    · simp only [hy1, if_false]
      rw [if_neg (by omega)]
  · rw [List.getElem?_set] at hy
    by_cases e : i = j
    · subst e; simp [hil] at hy
    · simp [e] at hy
      refine (h.line j y hy).of_heap (fun k hk hlt => hg.block k hlt (fun e2 => ?_)) (fun k hk => hk)
      injection e2 with e2; subst e2
      have := hk.2; rw [h.tmb] at this; omega

theorem drop_any {w : World} {B nb : Nat} {S : Nat → Prop} {N : List (Option Line)} (h : NetRep w B nb S N) (c : Int) (hc : (Lit.int .i64 c).wf = true) (hz : N.length ≤ 140737488351232) :
    Calls Try.prog 16 #[.pointer (some ⟨nb, 0, none⟩), .int .i64 c] w fun e w' => e = .returned (.int .i64 (dropE N c)) ∧ NMoved B nb S (dropN N c) w w' := by
  have HS := Lib.hid (NMoved.same h (Below.refl _ w))
  have HO := Lib.hid (over_any h c hc)
  obtain ⟨mb, T, ad, h⟩ := h
  have hlk := h.look hc
  have d1 := h.blk.cell (i := 1) rfl
  cases hl : lineAt N c with
  | none =>
    have HE : dropE N c = 23 ∧ dropN N c = N := by
      have : dropE N c = 23 := by unfold dropE; rw [hl]; rfl
      exact ⟨this, if_neg (by rw [this]; omega)⟩
    rw [HE.1, HE.2]
    rw [show netMap N ad c = none from by unfold netMap; rw [hl]; rfl] at hlk
    simp only [Option.getD] at hlk
    clear hl h hc HE
    go_enter Try.func16, Try.ntmps16
    go_wp2_with fail
    go_ret
    exact ⟨rfl, HS.out⟩
  | some p =>
    obtain ⟨i, x⟩ := p
    rw [show netMap N ad c = some (.pointer (some ⟨ad i, 0, none⟩)) from by unfold netMap; rw [hl]; rfl] at hlk
    simp only [Option.getD] at hlk
    cases ho : overN N c with
    | false =>
      rw [ho] at HO
      have HE : dropE N c = 25 ∧ dropN N c = N := by
        have : dropE N c = 25 := by unfold dropE; rw [hl, ho]; rfl
        exact ⟨this, if_neg (by rw [this]; omega)⟩
      rw [HE.1, HE.2]
      clear hl h hc HE ho
      go_enter Try.func16, Try.ntmps16
      go_wp2_with fail
      refine HO.out.mono ?_; rintro e w' ⟨rfl, rfl⟩
      go_wp2_with fail
      go_ret
      exact ⟨rfl, HS.out⟩
    | true =>
      rw [ho] at HO
      have HE : dropE N c = 0 ∧ dropN N c = N.set i none := by
        have : dropE N c = 0 := by unfold dropE; rw [hl, ho]; rfl
        refine ⟨this, ?_⟩
        unfold dropN setLine; rw [if_pos this, hl]
      rw [HE.1, HE.2]
      have HM := Lib.hid h.map
      have HD := Lib.hid (fun (w' : World) => h.dropped (w' := w') hl)
      have HC : Hid (KI.ok c) := Lib.hid hc
      clear hl h hc HE ho
      go_enter Try.func16, Try.ntmps16
      go_wp2_with fail
      refine HO.out.mono ?_; rintro e w' ⟨rfl, rfl⟩
      go_wp2_with (at_delete; refine wpList_delete_is _ rfl _ _ 52 3 rfl 56 KI Try.underlying52 mb N.length (netMap N ad) rfl HM.out c rfl HC.out ?_)
      intro w1 m1 g1 s1
      have HM1 := Lib.hid m1
      have HG1 := Lib.hid g1
      have HS1 := Lib.hid s1
      clear m1 g1 s1
      go_wp2_with fail
      go_ret
      exact ⟨rfl, HD.out w1 HM1.out HG1.out HS1.out⟩

theorem newnet_any (w : World) : Calls Try.prog 7 #[] w fun e w' => e = .returned (.pointer (some ⟨w.heap.size + 1, 0, none⟩)) ∧ Below w.heap.size w w' ∧ w'.heap.size = w.heap.size + 2 ∧ NetRep w' w.heap.size (w.heap.size + 1) (fun k => w.heap.size ≤ k ∧ k < w.heap.size + 2) [] := by
  have hmm := @run_makeMap Try.prog
  go_enter Try.func7, Try.ntmps7
  go_wp2_with fail
  go_ret
  refine ⟨rfl, (((Below.refl _ w).alloc (Nat.le_refl _) _).alloc (by simp) _), by simp, w.heap.size, fun k => if k = w.heap.size then 1 else 0, fun _ => 0, ⟨fun k hk => by simp; omega, ⟨by omega, by omega⟩, ⟨Nat.le_refl _, by omega⟩, by simp, by simp, ?_, ?_, fun i x hx => by simp at hx⟩⟩
  · have := Block.new (w.alloc (.map #[] 0)) [.int .i64 0, .map (some w.heap.size)] 54
    simpa using this
  · have := (MapIs.made w KI).of_heap (w' := (w.alloc (.map #[] 0)).alloc (.cells #[.int .i64 0, .map (some w.heap.size)] 54)) (Below.heap_alloc _ _ _ (by simp))
    refine this.congr fun x _ => ?_
    unfold netMap lineAt
    simp
end Go.Proofs.Yteopfknoemifgaa

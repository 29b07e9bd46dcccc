/- Layer 9: the contract of take. Conditions: the connection is there. -/
import Derived.Test.YteopfknoemifgaaP1
namespace Go.Proofs.Yteopfknoemifgaa
open Go.RowKit
set_option linter.unusedSimpArgs false
set_option linter.unusedVariables false

/-- What take has done: a row of its own with the first q bytes, the rest is left. -/
def Took (lb : Nat) (own : Nat → Prop) (x : Line) (q : Nat) (w : World) (e : Ending) (w' : World) : Prop :=
  ∃ a c, e = .returned (.slice a q c) ∧ IsBytes w' w.heap.size a c (x.way.take q) ∧ ∃ own' : Nat → Prop, LineRep w' lb own' { x with way := x.way.drop q } ∧ (∀ k, own' k → (own k ∨ w.heap.size ≤ k) ∧ k < w'.heap.size) ∧ KeptP own w w' ∧
    ∀ y, a = some y → ¬ own' y.block

theorem Took.mk {lb : Nat} {own : Nat → Prop} {x : Line} {q : Nat} {w w1 w2 : World} {a1 a2 : Option Addr} {c1 c2 : Nat} {a3 a4 : Option Addr} {c3 c4 : Nat} (hlt : ∀ k, own k → k < w.heap.size) (hq : q ≤ x.way.length)
    (h1 : Block w lb [.slice a1 x.way.length c1, .slice a2 x.back.length c2, .bool x.cut] 60) (h3 : IsBytes w 0 a2 c2 x.back) (h4 : own lb) (h6 : ∀ y, a2 = some y → own y.block ∧ y.block ≠ lb)
    (b1 : Below w.heap.size w w1) (i1 : IsBytes w1 w.heap.size a3 c3 (x.way.take q)) (b2 : Below w1.heap.size w1 w2) (i2 : IsBytes w2 w1.heap.size a4 c4 (x.way.drop q)) :
    Took lb own x q w (.returned (.slice a3 q c3)) (w2.setCell ⟨lb, 0, none⟩ (.slice a4 (x.way.drop q).length c4)) := by
  have hl := h1.lt
  have hs1 := b1.size
  have hs2 := b2.size
  have b12 : Below w.heap.size w w2 := b1.trans (b2.mono hs1)
  refine ⟨a3, c3, rfl, ?_, fun k => k < w2.heap.size ∧ (own k ∨ w1.heap.size ≤ k), ?_, fun k hk => ⟨hk.2.imp_right (fun h => by omega), by simpa [World.setCell] using hk.1⟩, ?_, fun y hy hk => ?_⟩
  · have i1' : IsBytes w2 w.heap.size a3 c3 (x.way.take q) := i1.of_heap fun y hy => b2.block _ (i1.lt y hy).2
    exact i1'.of_heap fun y hy => Below.heap_setCell _ _ _ _ (fun e => by have := (i1.lt y hy).1; simp only at e; omega)
  · refine ⟨a4, c4, a2, c2, ?_, ?_, ?_, ⟨by omega, .inl h4⟩, fun y hy => ⟨⟨(i2.lt y hy).2, .inr (i2.lt y hy).1⟩, fun e => by have := (i2.lt y hy).1; omega⟩, fun y hy => ⟨⟨by have := hlt _ (h6 y hy).1; omega, .inl (h6 y hy).1⟩, (h6 y hy).2⟩, fun y z hy hz e => ?_⟩
    · exact (h1.below b12 hl).set 0 _
    · exact (i2.mono (Nat.zero_le _)).of_heap fun y hy => Below.heap_setCell _ _ _ _ (fun e => by have := (i2.lt y hy).1; simp only at e; omega)
    · refine (h3.of_heap fun y hy => b12.block _ (h3.lt y hy).2 : IsBytes w2 0 a2 c2 x.back).of_heap fun y hy => Below.heap_setCell _ _ _ _ (h6 y hy).2
    · have := (i2.lt y hy).1; have := (h3.lt z hz).2; omega
  · exact (KeptP.of_below b12).setCell (.inl h4) _
  · have := i1.lt y hy
    rcases hk.2 with h | h
    · have := hlt _ h; omega
    · omega

set_option maxHeartbeats 1000000 in
theorem take_any (w : World) (lb : Nat) (own : Nat → Prop) (x : Line) (n q : Nat) (hr : LineRep w lb own x) (hlt : ∀ k, own k → k < w.heap.size) (hz : x.way.length ≤ 140737488351232)
    (hq : n ≤ x.way.length ∧ q = n ∨ x.way.length < n ∧ q = x.way.length) (hn : n ≤ 9223372036854775807) :
    Calls Try.prog 25 #[.pointer (some ⟨lb, 0, none⟩), .int .i64 n] w (Took lb own x q w) := by
  obtain ⟨a1, c1, a2, c2, h1, h2, h3, h4, h5, h6, h7⟩ := hr
  have hql : q ≤ x.way.length := by omega
  have d0 := h1.cell (i := 0) rfl
  have f0 := h1.free 0
  have hcap := h2.cap_le
  have hcapz := h2.capz
  have hhead := h2.head
  have hc1 := h2.cells.take q
  have hc2 := h2.cells
  have hone : a1 = none → x.way = [] := by
    rintro rfl
    rcases h2.2 with ⟨_, h⟩ | ⟨g, c, cur, h, _⟩
    · exact List.eq_nil_of_length_eq_zero h
    · cases h
  have hmin : (if (n : Int) ≤ x.way.length then (n : Int) else x.way.length) = q := by
    rcases hq with ⟨h, e⟩ | ⟨h, e⟩
    · rw [if_pos (by omega), e]
    · rw [if_neg (by omega), e]
  have HK := Lib.hid (fun (w1 w2 : World) (a3 a4 : Option Addr) (c3 c4 : Nat) => Took.mk (w := w) (w1 := w1) (w2 := w2) (a3 := a3) (a4 := a4) (c3 := c3) (c4 := c4) hlt hql h1 h3 h4 h6)
  have HB := Lib.hid h1
  have HT : Hid ((x.way.take q).length = q ∧ (x.way.drop q).length = x.way.length - q) := Lib.hid (by simp; omega)
  have hll := h1.lt
  clear h1 h2 h3 h5 h6 h7
  have HQ := Lib.hid hq
  clear hmin
  have hcap1 := hcap.1
  have hcap2 : c1 ≤ 9223372036854775807 := by have := hcap.2; unfold maxLen at this; omega
  clear hcap
  cases a1 with
  | none =>
    obtain rfl := hcapz rfl
    have hw := hone rfl
    have hw0 : x.way.length = 0 := by rw [hw]; rfl
    rw [hw0] at hql d0 HB
    have hq0 : q = 0 := by omega
    subst hq0
    have HW := Lib.hid hw
    clear hw hone hcapz hhead hc1 hc2 hq
    have HC0 : Hid (∀ w : World, Cells w.heap.size w none (bys [])) := Lib.hid (fun _ => .inl rfl)
    have hnn : (0 : Int) ≤ n := by omega
    have hx0 : Hid (x.way.take 0 = [] ∧ x.way.drop 0 = []) := Lib.hid (by simp [HW.out])
    rcases Nat.eq_zero_or_pos n with hn0 | hn0
    · subst hn0
      go_enter Try.func25, Try.ntmps25
      go_wp2_with fail
      refine (clone_any w _ _ _ _ [] rfl (HC0.out w) (fun _ => rfl) (by simp)).mono ?_; rintro e w1 ⟨a3, c3, rfl, i1, b1⟩
      have e0 := (HB.out.below b1 hll).cell (i := 0) rfl
      go_wp2_with fail
      refine (clone_any w1 _ _ _ _ [] rfl (HC0.out w1) (fun _ => rfl) (by simp)).mono ?_; rintro e w2 ⟨a4, c4, rfl, i2, b2⟩
      have HB2 := Lib.hid ((HB.out.below b1 hll).below b2 (Nat.lt_of_lt_of_le hll b1.size))
      have e1 := HB2.out.cell (i := 0) rfl
      have e2 := HB2.out.free 0
      have I1 := Lib.hid i1
      have B1 := Lib.hid b1
      have I2 := Lib.hid i2
      have B2 := Lib.hid b2
      clear i1 b1 i2 b2
      go_wp2_with fail
      go_ret
      have := HK.out w1 w2 a3 a4 c3 c4 B1.out (by rw [hx0.out.1]; exact I1.out) B2.out (by rw [hx0.out.2]; exact I2.out)
      rw [hx0.out.2] at this
      exact this
    · have hn1 : (0 : Int) < n := by omega
      have hn2 : ¬ (n : Int) ≤ 0 := by omega
      go_enter Try.func25, Try.ntmps25
      go_wp2_with fail
      refine (clone_any w _ _ _ _ [] rfl (HC0.out w) (fun _ => rfl) (by simp)).mono ?_; rintro e w1 ⟨a3, c3, rfl, i1, b1⟩
      have e0 := (HB.out.below b1 hll).cell (i := 0) rfl
      go_wp2_with fail
      refine (clone_any w1 _ _ _ _ [] rfl (HC0.out w1) (fun _ => rfl) (by simp)).mono ?_; rintro e w2 ⟨a4, c4, rfl, i2, b2⟩
      have HB2 := Lib.hid ((HB.out.below b1 hll).below b2 (Nat.lt_of_lt_of_le hll b1.size))
      have e1 := HB2.out.cell (i := 0) rfl
      have e2 := HB2.out.free 0
      have I1 := Lib.hid i1
      have B1 := Lib.hid b1
      have I2 := Lib.hid i2
      have B2 := Lib.hid b2
      clear i1 b1 i2 b2
      go_wp2_with fail
      go_ret
      have := HK.out w1 w2 a3 a4 c3 c4 B1.out (by rw [hx0.out.1]; exact I1.out) B2.out (by rw [hx0.out.2]; exact I2.out)
      rw [hx0.out.2] at this
      exact this
  | some y =>
    have hy := hhead y rfl
    obtain ⟨g, o, sp⟩ := y
    injection hy with e0 e1 e2
    clear e0
    subst e1 e2
    clear hone hcapz hhead
    rw [bys_take] at hc1
    have HC1 := Lib.hid hc1
    have HC2 := Lib.hid hc2
    clear hc1 hc2 HQ
    have hq3 : (n < x.way.length ∧ q = n) ∨ (n = x.way.length ∧ q = x.way.length) ∨ (x.way.length < n ∧ q = x.way.length) := by omega
    clear hq
    rcases hq3 with ⟨hq1, rfl⟩ | hq3
    · have hq2 : q < c1 := by omega
      go_enter Try.func25, Try.ntmps25
      go_wp2_with fail
      refine (clone_any w _ _ _ _ _ HT.out.1.symm HC1.out (fun h => by cases h) (by rw [HT.out.1]; omega)).mono ?_; rintro e w1 ⟨a3, c3, rfl, i1, b1⟩
      have e0 := (HB.out.below b1 hll).cell (i := 0) rfl
      have HC3 := Lib.hid (HC2.out.below b1 (Nat.le_refl _))
      go_wp2_with fail
      have HC4 : Hid (Cells w.heap.size w1 (some ⟨g, q, none⟩) (bys (x.way.drop q))) := Lib.hid (by have := HC3.out.drop q; rwa [Nat.zero_add, bys_drop] at this)
      refine (clone_any w1 _ _ _ _ _ HT.out.2.symm HC4.out (fun h => by cases h) (by rw [HT.out.2]; omega)).mono ?_; rintro e w2 ⟨a4, c4, rfl, i2, b2⟩
      have HB2 := Lib.hid ((HB.out.below b1 hll).below b2 (Nat.lt_of_lt_of_le hll b1.size))
      have e1 := HB2.out.cell (i := 0) rfl
      have e2 := HB2.out.free 0
      have I1 := Lib.hid i1
      have B1 := Lib.hid b1
      have I2 := Lib.hid i2
      have B2 := Lib.hid b2
      clear i1 b1 i2 b2
      go_wp2_with fail
      go_ret
      have := HK.out w1 w2 a3 a4 c3 c4 B1.out I1.out B2.out I2.out
      rw [HT.out.2] at this
      exact this
    · have HX : Hid (x.way.drop x.way.length = []) := Lib.hid (by simp)
      have hq4 : q = x.way.length := by omega
      subst hq4
      have hq5 : n = x.way.length ∨ x.way.length < n := by omega
      clear hq3
      rcases hq5 with rfl | hq5
      all_goals
        rcases Nat.lt_or_eq_of_le hcap1 with hsel | rfl
      all_goals
        go_enter Try.func25, Try.ntmps25
        go_wp2_with fail
        refine (clone_any w _ _ _ _ _ HT.out.1.symm HC1.out (fun h => by cases h) (by rw [HT.out.1]; omega)).mono ?_; rintro e w1 ⟨a3, c3, rfl, i1, b1⟩
        have e0 := (HB.out.below b1 hll).cell (i := 0) rfl
        have HC3 := Lib.hid (HC2.out.below b1 (Nat.le_refl _))
        go_wp2_with fail
        refine (clone_any w1 _ _ _ w1.heap.size [] rfl (.inl rfl) (fun h => by cases h) (by simp)).mono ?_; rintro e w2 ⟨a4, c4, rfl, i2, b2⟩
        have HB2 := Lib.hid ((HB.out.below b1 hll).below b2 (Nat.lt_of_lt_of_le hll b1.size))
        have e1 := HB2.out.cell (i := 0) rfl
        have e2 := HB2.out.free 0
        have I1 := Lib.hid i1
        have B1 := Lib.hid b1
        have I2 := Lib.hid i2
        have B2 := Lib.hid b2
        clear i1 b1 i2 b2
        go_wp2_with fail
        go_ret
        have := HK.out w1 w2 a3 a4 c3 c4 B1.out I1.out B2.out (by rw [HX.out]; exact I2.out)
        rw [HX.out] at this
        exact this
end Go.Proofs.Yteopfknoemifgaa

/- Layer 24: the contract of the reference's Commit. Conditions: the chain is there. -/
import Derived.Test.YtelmaaokaakpbaaR3
namespace Go.Proofs.Ytelmaaokaakpbaa
open Go.RowKit
set_option linter.unusedSimpArgs false
set_option linter.unusedVariables false

theorem Try.infoR : (Try.prog.info? 41).map (fun i => (i.zero, i.size, i.bytes)) = some (some (.agg #[.int .i64 0, .int .i64 0, .bool false]), 3, 24) := by kernel_rfl

theorem RMoved.commit {w X w1 : World} {B b : Nat} {own : List Nat} {s : St} {rv : Value} {x y : Int} {z : Bool} {who : Value} {gg cap2 : Nat} {f : Int} (hb1 : Block w1 b [rv, who, .int .i64 x, .int .i64 y, .bool z] 43) (hlt : b < w.heap.size) (hB : B ≤ b)
    (hfo : rv.ownBlock = none ∧ own = [b] ∨ ∃ g, rv.ownBlock = some g ∧ g ≠ b ∧ own = [b, g]) (hX : Below w.heap.size w X)
    (hown1 : w1.ownsRow B 41 3 (.slice (some ⟨gg, 0, none⟩) (s.l.length + 1) cap2) (s.l.length + 1) (rowV s.l ++ [.int .i64 f, .int .i64 s.val, .bool s.gone]))
    (hgrow : X.grownBy w1 rv.ownBlock) (hat : rv.ownBlock = some gg ∨ w.heap.size ≤ gg) :
    RMoved B b own { l := s.l ++ [⟨f, s.val, s.gone⟩], who := 0, val := 0, gone := false } w
      ((w1.setCell ⟨b, 0, none⟩ (.slice (some ⟨gg, 0, none⟩) (s.l.length + 1) cap2)).setCell ⟨b, 1, none⟩ (.int .i64 0)) := by
  have hbo : b ∈ own := by rcases hfo with ⟨_, rfl⟩ | ⟨g, _, _, rfl⟩ <;> simp
  have hgb : gg ≠ b := by
    rcases hat with h | h
    · rcases hfo with ⟨h1, _⟩ | ⟨g, h1, h2, _⟩
      · rw [h1] at h; cases h
      · rw [h1] at h; injection h with h; omega
    · omega
  have hne : (Value.slice (some ⟨gg, 0, none⟩) (s.l.length + 1) cap2).ownBlock ≠ some b := by simpa [Value.ownBlock] using hgb
  have hk : Kept own w w1 := (Kept.of_below hX).grown hgrow (fun k hk => by
    rcases hfo with ⟨h1, _⟩ | ⟨g, h1, h2, rfl⟩
    · rw [h1] at hk; cases hk
    · rw [h1] at hk; injection hk with hk; subst hk; exact .inl (by simp))
  refine ⟨[b, gg], ?_, fun k hk => ?_, (hk.setCell (.inl hbo) _).setCell (.inl hbo) _⟩
  · have hbb := (hb1.set 0 (.slice (some ⟨gg, 0, none⟩) (s.l.length + 1) cap2)).set 1 (.int .i64 0)
    have hoo := ownsRow_setCell_other (ownsRow_setCell_other hown1 (a := ⟨b, 0, none⟩) hne (.slice (some ⟨gg, 0, none⟩) (s.l.length + 1) cap2)) (a := ⟨b, 1, none⟩) hne (.int .i64 0)
    refine ⟨some ⟨gg, 0, none⟩, cap2, x, y, z, ?_, ?_, hB, .inl rfl, fun h => absurd rfl h, .inr ⟨gg, rfl, hgb, rfl⟩⟩
    · simp only [List.length_append, List.length_cons, List.length_nil]
      exact hbb
    · simp only [List.length_append, List.length_cons, List.length_nil, rowV_snoc]
      exact hoo
  · simp at hk
    rcases hk with rfl | rfl
    · exact .inl hbo
    · rcases hat with h | h
      · rcases hfo with ⟨h1, _⟩ | ⟨g, h1, h2, rfl⟩
        · rw [h1] at h; cases h
        · rw [h1] at h; injection h with h; subst h; exact .inl (by simp)
      · exact .inr h

theorem two_new (W : World) (O1 O2 : Obj) : (((W.alloc O1).alloc O2).drew).heap[W.heap.size + 1]? = some O2 := by
  have h := heap_alloc_new (W.alloc O1) O2
  rw [show (W.alloc O1).heap.size = W.heap.size + 1 from by simp] at h
  exact h

set_option maxRecDepth 100000 in
set_option maxHeartbeats 8000000 in
theorem rcommit_good (w : World) (B b : Nat) (own : List Nat) (s : St) (who f : Int) (hr : RRep w B b own s) (hm : s.l.length ≤ 1000000)
    (h1 : ¬ who < 1) (q : (s.who != who) = false) (hf : ¬ (0 < s.l.length ∧ f ≤ newest s.l)) :
    Calls Try.prog 27 #[.pointer (some ⟨b, 0, none⟩), .int .i64 who, .int .i64 f] w fun e w' => e = .returned (.int .i64 0) ∧ RMoved B b own { l := s.l ++ [⟨f, s.val, s.gone⟩], who := 0, val := 0, gone := false } w w' := by
  obtain ⟨i0, hi0, hz0, hz1, hz2⟩ := info_parts Try.infoR
  have HN := Lib.hid (rnewest_any w B b own s hr hm)
  obtain ⟨a, cap, hf0, hv, hg, hb, ho, hB, hown, hval, hfo⟩ := hr
  have hwne : s.who ≠ 0 := by
    have : s.who = who := by simpa using q
    omega
  obtain ⟨e1, e2⟩ := hval hwne
  subst e1 e2
  have c0 := hb.cell (i := 0) rfl
  have c1 := hb.cell (i := 1) rfl
  have c2 := hb.cell (i := 2) rfl
  have c3 := hb.cell (i := 3) rfl
  have c4 := hb.cell (i := 4) rfl
  have f0 := hb.free 0
  have f1 := hb.free 1
  have hlt := hb.lt
  have ag : (Value.slice a s.l.length cap).ownBlock ≠ some b := by
    rcases hfo with ⟨h, _⟩ | ⟨g, hg, hgb, _⟩
    · rw [h]; simp
    · rw [hg]; simpa using hgb
  have HO := Lib.hid ho
  have HB := Lib.hid hb
  clear hb ho hval hown hwne
  obtain ⟨nn, hnn⟩ : ∃ nn, newest s.l = nn := ⟨_, rfl⟩
  rw [hnn] at HN hf
  clear hnn
  by_cases h3 : 0 < s.l.length
  · have h3' : (0 : Int) < s.l.length := by omega
    have h4 : ¬ f ≤ nn := fun h => hf ⟨h3, h⟩
    clear hf
    go_enter Try.func27, Try.ntmps27
    go_wp2_with fail
    refine HN.out.mono ?_; rintro e v ⟨rfl, nq, hvv⟩
    have hX := below_of w nq
    have hsz : (w.drewN nq).heap.size = w.heap.size := rfl
    have HBV : Block (w.drewN nq) b [.slice a s.l.length cap, .int .i64 s.who, .int .i64 hf0, .int .i64 s.val, .bool s.gone] 43 := HB.out
    have HOW : (w.drewN nq).ownsRow B 41 3 (.slice a s.l.length cap) s.l.length (rowV s.l) := HO.out
    rw [← hvv] at hX hsz HBV HOW
    have d0 := HBV.cell (i := 0) rfl
    have d1 := HBV.cell (i := 1) rfl
    have d2 := HBV.cell (i := 2) rfl
    have d3 := HBV.cell (i := 3) rfl
    have d4 := HBV.cell (i := 4) rfl
    have k0 := HBV.free 0
    have k1 := HBV.free 1
    have hlv := HBV.lt
    have HBH := Lib.hid HBV
    have hsz' := Lib.hid hsz
    clear HBV hvv hsz
    go_wp2_with fail
    go_region_law (first | (refine step_append_lies _ (by rfl) _ _ _ (by rfl) B 41 i0 _ 3 24 Try.underlying39 hi0 hz0 hz1 hz2 rfl (by omega) (.slice a s.l.length cap) s.l.length (rowV s.l) (by rfl) ((HOW.alloc _ |>.alloc _).drew) ⟨v.heap.size + 1, 0, none⟩ 1 1 [.int .i64 f, .int .i64 s.val, .bool s.gone] (by rfl) (by rfl) (World.news_of_block (cs := #[.int .i64 f, .int .i64 s.val, .bool s.gone]) (t := 41) (fr := (0, 0)) (two_new v _ _)) (by simp [Value.oneCell']) (by omega) (by unfold maxLen; omega) (by omega) (by simp; omega) (v.heap.size + 2) (by simp) ?_; intro gg cap2 w1 hown1 hgrow hat hlt1; have hb1 := grown_block HBH.out (w0 := ((v.alloc _).alloc _).drew) ((Below.heap_alloc _ _ _ (by simp; omega)).trans (Below.heap_alloc _ _ _ hlv)) hgrow ag; have m0 := hb1.cell (i := 0) rfl; have m1 := hb1.cell (i := 1) rfl; have g0 := hb1.free 0; have g1 := hb1.free 1; have HB1 := Lib.hid hb1; clear hb1))
    all_goals go_wp2_with fail
    all_goals go_ret
    all_goals exact ⟨rfl, RMoved.commit HB1.out hlt hB hfo ((hX.alloc (Nat.le_of_eq hsz'.out.symm) _).alloc (by have := hsz'.out; simp; omega) _).drew hown1 hgrow (hat.imp_right (fun h => by have := hsz'.out; omega))⟩
  · have h3' : ¬ (0 : Int) < s.l.length := by omega
    have HOW := HO.out
    clear hf
    go_enter Try.func27, Try.ntmps27
    go_wp2_with fail
    go_region_law (first | (refine step_append_lies _ (by rfl) _ _ _ (by rfl) B 41 i0 _ 3 24 Try.underlying39 hi0 hz0 hz1 hz2 rfl (by omega) (.slice a s.l.length cap) s.l.length (rowV s.l) (by rfl) ((HOW.alloc _ |>.alloc _).drew) ⟨w.heap.size + 1, 0, none⟩ 1 1 [.int .i64 f, .int .i64 s.val, .bool s.gone] (by rfl) (by rfl) (World.news_of_block (cs := #[.int .i64 f, .int .i64 s.val, .bool s.gone]) (t := 41) (fr := (0, 0)) (two_new w _ _)) (by simp [Value.oneCell']) (by omega) (by unfold maxLen; omega) (by omega) (by simp; omega) (w.heap.size + 2) (by simp) ?_; intro gg cap2 w1 hown1 hgrow hat hlt1; have hb1 := grown_block HB.out (w0 := ((w.alloc _).alloc _).drew) ((Below.heap_alloc _ _ _ (by simp; omega)).trans (Below.heap_alloc _ _ _ hlt)) hgrow ag; have k0 := hb1.cell (i := 0) rfl; have k1 := hb1.cell (i := 1) rfl; have g0 := hb1.free 0; have g1 := hb1.free 1; have HB1 := Lib.hid hb1; clear hb1))
    all_goals go_wp2_with fail
    all_goals go_ret
    all_goals exact ⟨rfl, RMoved.commit HB1.out hlt hB hfo ((((Below.refl _ w).alloc (Nat.le_refl _) _).alloc (by simp) _).drew) hown1 hgrow (hat.imp_right (fun h => by omega))⟩
end Go.Proofs.Ytelmaaokaakpbaa

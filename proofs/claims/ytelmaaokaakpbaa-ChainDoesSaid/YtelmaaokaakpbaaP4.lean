/- Layer 24: the contracts of Commit and Prune. Conditions: the chain is there and has at most a million versions. -/
import Derived.Test.YtelmaaokaakpbaaP3
import Derived.Deep.RegionLaw
namespace Go.Proofs.Ytelmaaokaakpbaa
open Go.RowKit
set_option linter.unusedSimpArgs false
set_option linter.unusedVariables false

def commitS (s : St) (who f : Int) : St × Int :=
  if who < 1 ∨ s.who ≠ who then (s, 23) else if 0 < s.l.length ∧ f ≤ newest s.l then (s, 21)
  else ({ l := s.l ++ [⟨f, s.val, s.gone⟩], who := 0, val := 0, gone := false }, 0)

theorem grown_block {w w0 w1 : World} {row : Option Nat} {b : Nat} {cur : List Value} {t : TypeId} (hb : Block w b cur t) (h0 : w0.heap[b]? = w.heap[b]?) (hg : w0.grownBy w1 row) (hr : row ≠ some b) : Block w1 b cur t := by
  have h1 : Block w0 b cur t := hb.of_heap h0
  exact h1.of_heap (hg.block b h1.lt (Ne.symm hr))

theorem rowV_snoc (l : List V) (v : V) : rowV (l ++ [v]) = rowV l ++ v.cells := by simp [rowV]
/-- What a commit leaves: the version is the last one of a row that may be a new one, and nobody writes. -/
theorem Moved.commit {w w1 : World} {B b : Nat} {own : List Nat} {s : St} {rv : Value} {gg cap2 : Nat} {f : Int} {X : Obj} (hb1 : Block w1 b [rv, .int .i64 s.who, .int .i64 s.val, .bool s.gone] 55) (hlt : b < w.heap.size) (hB : B ≤ b)
    (hfo : rv.ownBlock = none ∧ own = [b] ∨ ∃ g, rv.ownBlock = some g ∧ g ≠ b ∧ own = [b, g])
    (hown1 : w1.ownsRow B 57 3 (.slice (some ⟨gg, 0, none⟩) (s.l.length + 1) cap2) (s.l.length + 1) (rowV s.l ++ [.int .i64 f, .int .i64 s.val, .bool s.gone]))
    (hgrow : (w.alloc X).drew.grownBy w1 rv.ownBlock) (hat : rv.ownBlock = some gg ∨ gg = w.heap.size + 1) :
    Moved B b own { l := s.l ++ [⟨f, s.val, s.gone⟩], who := 0, val := 0, gone := false } w
      ((((w1.setCell ⟨b, 0, none⟩ (.slice (some ⟨gg, 0, none⟩) (s.l.length + 1) cap2)).setCell ⟨b, 1, none⟩ (.int .i64 0)).setCell ⟨b, 2, none⟩ (.int .i64 0)).setCell ⟨b, 3, none⟩ (.bool false)) := by
  have hbo : b ∈ own := by rcases hfo with ⟨_, rfl⟩ | ⟨g, _, _, rfl⟩ <;> simp
  have hgb : gg ≠ b := by
    rcases hat with h | h
    · rcases hfo with ⟨h1, _⟩ | ⟨g, h1, h2, _⟩
      · rw [h1] at h; cases h
      · rw [h1] at h; injection h with h; omega
    · omega
  have hne : (Value.slice (some ⟨gg, 0, none⟩) (s.l.length + 1) cap2).ownBlock ≠ some b := by simpa [Value.ownBlock] using hgb
  have hk : Kept own w w1 := (((Kept.refl own w).alloc X).drew).grown hgrow (fun k hk => by
    rcases hfo with ⟨h1, _⟩ | ⟨g, h1, h2, rfl⟩
    · rw [h1] at hk; cases hk
    · rw [h1] at hk; injection hk with hk; subst hk; exact .inl (by simp))
  refine ⟨[b, gg], ⟨some ⟨gg, 0, none⟩, cap2, ?_, ?_, hB, .inr ⟨gg, rfl, hgb, rfl⟩⟩, fun k hk => ?_, (((hk.setCell (.inl hbo) _).setCell (.inl hbo) _).setCell (.inl hbo) _).setCell (.inl hbo) _⟩
  · have := (((hb1.set 0 (.slice (some ⟨gg, 0, none⟩) (s.l.length + 1) cap2)).set 1 (.int .i64 0)).set 2 (.int .i64 0)).set 3 (.bool false)
    simp only [List.length_append, List.length_cons, List.length_nil]
    exact this
  · simp only [List.length_append, List.length_cons, List.length_nil, rowV_snoc]
    exact ownsRow_setCell_other (ownsRow_setCell_other (ownsRow_setCell_other (ownsRow_setCell_other hown1 hne _) hne _) hne _) hne _
  · simp at hk
    rcases hk with rfl | rfl
    · exact .inl hbo
    · rcases hat with h | h
      · rcases hfo with ⟨h1, _⟩ | ⟨g, h1, h2, rfl⟩
        · rw [h1] at h; cases h
        · rw [h1] at h; injection h with h; subst h; exact .inl (by simp)
      · exact .inr (by omega)

theorem Try.infoV : (Try.prog.info? 57).map (fun i => (i.zero, i.size, i.bytes)) = some (some (.agg #[.int .i64 0, .int .i64 0, .bool false]), 3, 24) := by kernel_rfl

set_option maxRecDepth 100000 in
set_option maxHeartbeats 3200000 in
theorem commit_good (w : World) (B b : Nat) (own : List Nat) (s : St) (who f : Int) (hr : Rep w B b own s) (hm : s.l.length ≤ 1000000)
    (h1 : ¬ who < 1) (q : (s.who != who) = false) (hf : ¬ (0 < s.l.length ∧ f ≤ newest s.l)) :
    Calls Try.prog 17 #[.pointer (some ⟨b, 0, none⟩), .int .i64 who, .int .i64 f] w fun e w' => e = .returned (.int .i64 0) ∧ Moved B b own { l := s.l ++ [⟨f, s.val, s.gone⟩], who := 0, val := 0, gone := false } w w' := by
  obtain ⟨i0, hi0, hz0, hz1, hz2⟩ := info_parts Try.infoV
  obtain ⟨a, cap, hb, ho, hB, hfo⟩ := hr
  have c0 := hb.cell (i := 0) rfl
  have c1 := hb.cell (i := 1) rfl
  have c2 := hb.cell (i := 2) rfl
  have c3 := hb.cell (i := 3) rfl
  have f0 := hb.free 0
  have f1 := hb.free 1
  have f2 := hb.free 2
  have f3 := hb.free 3
  have hlt := hb.lt
  have ag : (Value.slice a s.l.length cap).ownBlock ≠ some b := by
    rcases hfo with ⟨h, _⟩ | ⟨g, hg, hgb, _⟩
    · rw [h]; simp
    · rw [hg]; simpa using hgb
  have hfa : ∀ o, (w.alloc o).drew.frozen? ⟨b, 0, none⟩ = false := fun o => (hb.alloc o).free 0
  have hn0 := hf
  have HO := Lib.hid ho
  have HB := Lib.hid hb
  clear hb ho hf
  by_cases h3 : 0 < s.l.length
  · obtain ⟨v, hv, hn⟩ := newest_get h3
    obtain ⟨g, rfl, d0, _, _⟩ := own_cells HO.out hv
    have h3' : (0 : Int) < s.l.length := by omega
    have h4 : ¬ f ≤ v.from_ := fun h => hn0 ⟨h3, by rw [hn]; exact h⟩
    clear hv hn hn0
    go_enter Try.func17, Try.ntmps17
    go_wp2_with fail
    go_region_law (first | (refine step_append_lies _ (by rfl) _ _ _ (by rfl) B 57 i0 _ 3 24 Try.underlying51 hi0 hz0 hz1 hz2 rfl (by omega) (.slice (some ⟨g, 0, none⟩) s.l.length cap) s.l.length (rowV s.l) (by rfl) ((HO.out.alloc _).drew) ⟨w.heap.size, 0, none⟩ 1 1 [.int .i64 f, .int .i64 s.val, .bool s.gone] (by rfl) (by rfl) (World.news_of_block (cs := #[.int .i64 f, .int .i64 s.val, .bool s.gone]) (t := 57) (fr := (0, 0)) (heap_alloc_new w _)) (by simp [Value.oneCell']) (by omega) (by unfold maxLen; omega) (by omega) (by simp; omega) (w.heap.size + 1) (by simp) ?_; intro gg cap2 w1 hown1 hgrow hat hlt1; have hb1 := grown_block HB.out (w0 := (w.alloc _).drew) (Below.heap_alloc _ _ _ hlt) hgrow ag; have k0 := hb1.cell (i := 0) rfl; have k1 := hb1.cell (i := 1) rfl; have k2 := hb1.cell (i := 2) rfl; have k3 := hb1.cell (i := 3) rfl; have g0 := hb1.free 0; have g1 := hb1.free 1; have g2 := hb1.free 2; have g3 := hb1.free 3; have HB1 := Lib.hid hb1; clear hb1))
    all_goals go_wp2_with fail
    all_goals go_ret
    all_goals exact ⟨rfl, Moved.commit HB1.out hlt hB hfo hown1 hgrow hat⟩
  · have h3' : ¬ (0 : Int) < s.l.length := by omega
    clear hn0
    go_enter Try.func17, Try.ntmps17
    go_wp2_with fail
    go_region_law (first | (refine step_append_lies _ (by rfl) _ _ _ (by rfl) B 57 i0 _ 3 24 Try.underlying51 hi0 hz0 hz1 hz2 rfl (by omega) (.slice a s.l.length cap) s.l.length (rowV s.l) (by rfl) ((HO.out.alloc _).drew) ⟨w.heap.size, 0, none⟩ 1 1 [.int .i64 f, .int .i64 s.val, .bool s.gone] (by rfl) (by rfl) (World.news_of_block (cs := #[.int .i64 f, .int .i64 s.val, .bool s.gone]) (t := 57) (fr := (0, 0)) (heap_alloc_new w _)) (by simp [Value.oneCell']) (by omega) (by unfold maxLen; omega) (by omega) (by simp; omega) (w.heap.size + 1) (by simp) ?_; intro gg cap2 w1 hown1 hgrow hat hlt1; have hb1 := grown_block HB.out (w0 := (w.alloc _).drew) (Below.heap_alloc _ _ _ hlt) hgrow ag; have k0 := hb1.cell (i := 0) rfl; have k1 := hb1.cell (i := 1) rfl; have k2 := hb1.cell (i := 2) rfl; have k3 := hb1.cell (i := 3) rfl; have g0 := hb1.free 0; have g1 := hb1.free 1; have g2 := hb1.free 2; have g3 := hb1.free 3; have HB1 := Lib.hid hb1; clear hb1))
    all_goals go_wp2_with fail
    all_goals go_ret
    all_goals exact ⟨rfl, Moved.commit HB1.out hlt hB hfo hown1 hgrow hat⟩
end Go.Proofs.Ytelmaaokaakpbaa

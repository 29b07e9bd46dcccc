/- Layer 24: the contracts of the chain's methods that write. Conditions: the chain is there and has at most a million versions. -/
import Derived.Test.YtelmaaokaakpbaaP2
import Derived.Deep.RegionHeld3
import Derived.Deep.AppendLies
namespace Go.Proofs.Ytelmaaokaakpbaa
open Go.RowKit
set_option linter.unusedSimpArgs false
set_option linter.unusedVariables false

theorem Rep.of_heap {w w' : World} {B b : Nat} {own : List Nat} {s : St} (h : Rep w B b own s) (hh : ∀ k ∈ own, w'.heap[k]? = w.heap[k]?) : Rep w' B b own s := by
  obtain ⟨a, cap, hb, ho, hB, hf⟩ := h
  have hbo : b ∈ own := by rcases hf with ⟨_, rfl⟩ | ⟨g, _, _, rfl⟩ <;> simp
  refine ⟨a, cap, hb.of_heap (hh b hbo), ?_, hB, hf⟩
  obtain ⟨h1, h2⟩ := ho
  refine ⟨h1, ?_⟩
  rcases h2 with h2 | ⟨g, c, cur, h3, h4, h5, h6⟩
  · exact .inl h2
  · refine .inr ⟨g, c, cur, h3, h4, ?_, h6⟩
    rw [hh g ?_]; exact h5
    injection h3 with e1 e2 e3
    rcases hf with ⟨hn, _⟩ | ⟨g', hg, _, rfl⟩
    · rw [e1] at hn; simp [Value.ownBlock] at hn
    · rw [e1] at hg; simp [Value.ownBlock] at hg; subst hg; simp
theorem Rep.drewN {w : World} {B b : Nat} {own : List Nat} {s : St} (h : Rep w B b own s) (n : Nat) : Rep (w.drewN n) B b own s := h.of_heap fun _ _ => rfl
theorem Rep.own_lt {w : World} {B b : Nat} {own : List Nat} {s : St} (h : Rep w B b own s) : ∀ k ∈ own, B ≤ k ∧ k < w.heap.size := by
  obtain ⟨a, cap, hb, ho, hB, hf⟩ := h
  intro k hk
  rcases hf with ⟨_, rfl⟩ | ⟨g, hg, _, rfl⟩
  · simp at hk; subst hk; exact ⟨hB, hb.lt⟩
  · simp at hk
    rcases hk with rfl | rfl
    · exact ⟨hB, hb.lt⟩
    · exact ho.lt _ hg
theorem Rep.kept {w w' : World} {B b : Nat} {own own2 : List Nat} {s : St} (h : Rep w B b own s) (hk : Kept own2 w w') (hd : ∀ k ∈ own, k ∉ own2) : Rep w' B b own s :=
  h.of_heap fun k hm => hk.block k (h.own_lt k hm).2 (hd k hm)

/-- What a call has done to a chain: it is s' now, and nothing else that was there has turned. -/
def Moved (B b : Nat) (own : List Nat) (s' : St) (w w' : World) : Prop :=
  ∃ own', Rep w' B b own' s' ∧ (∀ k ∈ own', k ∈ own ∨ w.heap.size ≤ k) ∧ Kept own w w'
theorem Moved.same {w : World} {B b : Nat} {own : List Nat} {s : St} (h : Rep w B b own s) (n : Nat) : Moved B b own s w (w.drewN n) :=
  ⟨own, h.drewN n, fun k hk => .inl hk, (Kept.refl own w).drewN n⟩
theorem Moved.same0 {w : World} {B b : Nat} {own : List Nat} {s : St} (h : Rep w B b own s) : Moved B b own s w w := ⟨own, h, fun k hk => .inl hk, Kept.refl own w⟩

/-- The lock written anew. -/
theorem Moved.lock {w : World} {B b : Nat} {own : List Nat} {s : St} (h : Rep w B b own s) (n : Nat) (who val : Int) (gone : Bool) :
    Moved B b own { l := s.l, who := who, val := val, gone := gone } w (((((w.drewN n).setCell ⟨b, 1, none⟩ (.int .i64 who)).setCell ⟨b, 2, none⟩ (.int .i64 val)).setCell ⟨b, 3, none⟩ (.bool gone))) := by
  obtain ⟨a, cap, hb, ho, hB, hf⟩ := h
  have hbo : b ∈ own := by rcases hf with ⟨_, rfl⟩ | ⟨g, _, _, rfl⟩ <;> simp
  have hne : (Value.slice a s.l.length cap).ownBlock ≠ some b := by
    rcases hf with ⟨h, _⟩ | ⟨g, hg, hgb, _⟩
    · rw [h]; simp
    · rw [hg]; simpa using hgb
  have hb' : Block (w.drewN n) b [.slice a s.l.length cap, .int .i64 s.who, .int .i64 s.val, .bool s.gone] _ := hb
  have ho' : (w.drewN n).ownsRow B _ 3 (.slice a s.l.length cap) s.l.length (rowV s.l) := ho
  refine ⟨own, ⟨a, cap, ?_, ?_, hB, hf⟩, fun k hk => .inl hk, ((((Kept.refl own w).drewN n).setCell (.inl hbo) _).setCell (.inl hbo) _).setCell (.inl hbo) _⟩
  · exact ((hb'.set 1 _).set 2 _).set 3 _
  · exact ownsRow_setCell_other (ownsRow_setCell_other (ownsRow_setCell_other ho' hne _) hne _) hne _

def writeS (s : St) (who t v : Int) : St := if mayE s who t = 0 then { l := s.l, who := who, val := v, gone := false } else s

theorem write_any (w : World) (B b : Nat) (own : List Nat) (s : St) (who t v : Int) (hr : Rep w B b own s) (hm : s.l.length ≤ 1000000) :
    Calls Try.prog 15 #[.pointer (some ⟨b, 0, none⟩), .int .i64 who, .int .i64 t, .int .i64 v] w fun e w' => e = .returned (.int .i64 (mayE s who t)) ∧ Moved B b own (writeS s who t v) w w' := by
  have HM := Lib.hid (may_any w B b own s who t hr hm)
  have HR := Lib.hid hr
  obtain ⟨a, cap, hb, ho, hB, _⟩ := hr
  have c1 := hb.cell (i := 1) rfl
  have c2 := hb.cell (i := 2) rfl
  have c3 := hb.cell (i := 3) rfl
  have f1 := hb.free 1
  have f2 := hb.free 2
  have f3 := hb.free 3
  clear hb ho
  by_cases h0 : mayE s who t = 0
  · have HS : Hid (writeS s who t v = { l := s.l, who := who, val := v, gone := false }) := Lib.hid (if_pos h0)
    rw [h0] at HM ⊢
    clear h0
    go_enter Try.func15, Try.ntmps15
    go_wp2_with fail
    refine HM.out.mono ?_; rintro e w' ⟨rfl, nq, rfl⟩
    go_wp2_with fail
    go_ret
    exact ⟨rfl, by rw [HS.out]; exact Moved.lock HR.out nq who v false⟩
  · have HS : Hid (writeS s who t v = s) := Lib.hid (if_neg h0)
    have h0' : (mayE s who t == 0) = false := beq_eq_false_iff_ne.2 h0
    generalize mayE s who t = e0 at *
    clear h0
    go_enter Try.func15, Try.ntmps15
    go_wp2_with fail
    refine HM.out.mono ?_; rintro e w' ⟨rfl, nq, rfl⟩
    go_wp2_with fail
    go_ret
    exact ⟨rfl, by rw [HS.out]; exact Moved.same HR.out nq⟩

def eraseS (s : St) (who t : Int) : St × Int :=
  if mayE s who t ≠ 0 then (s, mayE s who t) else if (readS s t who).2 = false then (s, 23) else ({ l := s.l, who := who, val := 0, gone := true }, 0)
def abortS (s : St) (who : Int) : St × Int := if who < 1 ∨ s.who ≠ who then (s, 23) else ({ l := s.l, who := 0, val := 0, gone := false }, 0)

theorem erase_any (w : World) (B b : Nat) (own : List Nat) (s : St) (who t : Int) (hr : Rep w B b own s) (hm : s.l.length ≤ 1000000) :
    Calls Try.prog 16 #[.pointer (some ⟨b, 0, none⟩), .int .i64 who, .int .i64 t] w fun e w' => e = .returned (.int .i64 (eraseS s who t).2) ∧ Moved B b own (eraseS s who t).1 w w' := by
  have HM := Lib.hid (may_any w B b own s who t hr hm)
  have HR := Lib.hid hr
  have HD := Lib.hid (fun n => read_any (w.drewN n) B b own s t who (hr.drewN n) hm)
  obtain ⟨a, cap, hb, ho, hB, _⟩ := hr
  have c1 := hb.cell (i := 1) rfl
  have c2 := hb.cell (i := 2) rfl
  have c3 := hb.cell (i := 3) rfl
  have f1 := hb.free 1
  have f2 := hb.free 2
  have f3 := hb.free 3
  clear hb ho
  by_cases h0 : mayE s who t = 0
  · rw [h0] at HM
    cases hk : (readS s t who).2 with
    | false =>
      have HS : Hid (eraseS s who t = (s, 23)) := Lib.hid (by unfold eraseS; rw [if_neg (by simp [h0]), if_pos hk])
      rw [hk] at HD
      generalize (readS s t who).1 = rv at *
      clear h0 hk
      go_enter Try.func16, Try.ntmps16
      go_wp2_with fail
      refine HM.out.mono ?_; rintro e w' ⟨rfl, nq, rfl⟩
      go_wp2_with fail
      refine (HD.out nq).mono ?_; rintro e w' ⟨rfl, rfl⟩
      go_wp2_with fail
      go_ret
      exact ⟨by rw [HS.out]; rfl, by rw [HS.out]; exact Moved.same HR.out nq⟩
    | true =>
      have HS : Hid (eraseS s who t = ({ l := s.l, who := who, val := 0, gone := true }, 0)) := Lib.hid (by unfold eraseS; rw [if_neg (by simp [h0]), if_neg (by simp [hk])])
      rw [hk] at HD
      generalize (readS s t who).1 = rv at *
      clear h0 hk
      go_enter Try.func16, Try.ntmps16
      go_wp2_with fail
      refine HM.out.mono ?_; rintro e w' ⟨rfl, nq, rfl⟩
      go_wp2_with fail
      refine (HD.out nq).mono ?_; rintro e w' ⟨rfl, rfl⟩
      go_wp2_with fail
      go_ret
      exact ⟨by rw [HS.out]; rfl, by rw [HS.out]; exact Moved.lock HR.out nq who 0 true⟩
  · have HS : Hid (eraseS s who t = (s, mayE s who t)) := Lib.hid (if_pos h0)
    have h0' : (mayE s who t == 0) = false := beq_eq_false_iff_ne.2 h0
    have h1' : (mayE s who t != 0) = true := by simpa using h0
    generalize mayE s who t = e0 at *
    clear h0
    go_enter Try.func16, Try.ntmps16
    go_wp2_with fail
    refine HM.out.mono ?_; rintro e w' ⟨rfl, nq, rfl⟩
    go_wp2_with fail
    go_ret
    exact ⟨by rw [HS.out]; rfl, by rw [HS.out]; exact Moved.same HR.out nq⟩

theorem abort_any (w : World) (B b : Nat) (own : List Nat) (s : St) (who : Int) (hr : Rep w B b own s) :
    Calls Try.prog 13 #[.pointer (some ⟨b, 0, none⟩), .int .i64 who] w fun e w' => e = .returned (.int .i64 (abortS s who).2) ∧ Moved B b own (abortS s who).1 w w' := by
  have HR := Lib.hid hr
  obtain ⟨a, cap, hb, ho, hB, _⟩ := hr
  have c1 := hb.cell (i := 1) rfl
  have c2 := hb.cell (i := 2) rfl
  have c3 := hb.cell (i := 3) rfl
  have f1 := hb.free 1
  have f2 := hb.free 2
  have f3 := hb.free 3
  clear hb ho
  by_cases h1 : who < 1
  · have HS : Hid (abortS s who = (s, 23)) := Lib.hid (if_pos (.inl h1))
    go_enter Try.func13, Try.ntmps13
    go_wp2_with fail
    go_ret
    exact ⟨by rw [HS.out]; rfl, by rw [HS.out]; exact Moved.same0 HR.out⟩
  · by_cases h2 : s.who = who
    · have HS : Hid (abortS s who = ({ l := s.l, who := 0, val := 0, gone := false }, 0)) := Lib.hid (if_neg (by rintro (h | h); exact h1 h; exact h h2))
      have q : (s.who != who) = false := by simp [h2]
      clear h2
      go_enter Try.func13, Try.ntmps13
      go_wp2_with fail
      go_ret
      exact ⟨by rw [HS.out]; rfl, by rw [HS.out]; exact Moved.lock HR.out 0 0 0 false⟩
    · have HS : Hid (abortS s who = (s, 23)) := Lib.hid (if_pos (.inr h2))
      have q : (s.who != who) = true := by simpa using h2
      clear h2
      go_enter Try.func13, Try.ntmps13
      go_wp2_with fail
      go_ret
      exact ⟨by rw [HS.out]; rfl, by rw [HS.out]; exact Moved.same0 HR.out⟩

theorem newest_any (w : World) (B b : Nat) (own : List Nat) (s : St) (hr : Rep w B b own s) (hm : s.l.length ≤ 1000000) :
    Calls Try.prog 14 #[.pointer (some ⟨b, 0, none⟩)] w fun e w' => e = .returned (.int .i64 (newest s.l)) ∧ Below w.heap.size w w' := by
  obtain ⟨a, cap, hb, ho, hB, _⟩ := hr
  have c0 := hb.cell (i := 0) rfl
  have HO := Lib.hid ho
  have hlt := hb.lt
  clear hb ho
  by_cases h3 : 0 < s.l.length
  · obtain ⟨v, hv, hn⟩ := newest_get h3
    obtain ⟨g, rfl, d0, _, _⟩ := own_cells HO.out hv
    have hg := World.block_lt_of_cell? _ _ d0
    simp only at hg
    have h3' : (0 : Int) < s.l.length := by omega
    rw [hn]
    clear hv hn
    go_enter Try.func14, Try.ntmps14
    go_wp2_with fail
    go_ret
    exact ⟨rfl, (Below.refl _ _).alloc (Nat.le_refl _) _⟩
  · have h3' : ¬ (0 : Int) < s.l.length := by omega
    rw [newest_nil h3]
    go_enter Try.func14, Try.ntmps14
    go_wp2_with fail
    go_ret
    exact ⟨rfl, (Below.refl _ _).alloc (Nat.le_refl _) _⟩
theorem new_any (w : World) :
    Calls Try.prog 8 #[] w fun e w' => e = .returned (.pointer (some ⟨w.heap.size, 0, none⟩)) ∧ ∃ own, Rep w' w.heap.size w.heap.size own { l := [], who := 0, val := 0, gone := false } ∧ Below w.heap.size w w' := by
  go_enter Try.func8, Try.ntmps8
  go_wp2_with fail
  go_ret
  exact ⟨rfl, [w.heap.size], ⟨none, 0, Block.new w _ _, World.ownsRow_nil _ _ _ _, Nat.le_refl _, .inl ⟨rfl, rfl⟩⟩, (Below.refl _ _).alloc (Nat.le_refl _) _⟩
end Go.Proofs.Ytelmaaokaakpbaa

/- Layer 24: two chains side by side. Conditions: both are there. -/
import Derived.Test.YtelmaaokaakpbaaP9
namespace Go.Proofs.Ytelmaaokaakpbaa
open Go.RowKit
set_option linter.unusedSimpArgs false
set_option linter.unusedVariables false

theorem Cells.alloc' {B : Nat} {w : World} {a : Option Addr} {vs : List Value} (h : Cells B w a vs) (o : Obj) : Cells B (w.alloc o) a vs := by
  rcases h with h | ⟨b, off, h1, h2, h3⟩
  · exact .inl h
  · refine .inr ⟨b, off, h1, h2, fun i v hi => ?_⟩
    have := h3 i v hi
    rw [World.cell?_of_block (Below.heap_alloc w o _ (World.block_lt_of_cell? w _ this))]; exact this

/-- A row that was just made, full. -/
theorem own_full (w : World) {base : Nat} {e : TypeId} (cur : List Value) (hb : base ≤ w.heap.size) (hm : cur.length ≤ maxLen) :
    (w.alloc (.cells cur.toArray e)).ownsRow base e 1 (.slice (some ⟨w.heap.size, 0, none⟩) cur.length cur.length) cur.length cur :=
  ⟨by simp, .inr ⟨w.heap.size, cur.length, cur.toArray, rfl, hb, heap_alloc_new w _, Nat.le_refl _, hm, by simp, by simp⟩⟩

/-- In w there are two chains that share no block, in blocks that were not in W; all that was in W is as it was. -/
def Has2 (W : World) (b1 : Nat) (s1 : St) (b2 : Nat) (s2 : St) (w : World) : Prop :=
  ∃ o1 o2, Rep w W.heap.size b1 o1 s1 ∧ Rep w W.heap.size b2 o2 s2 ∧ (∀ k ∈ o1, k ∉ o2) ∧ Below W.heap.size W w
theorem Has2.is {W w : World} {b1 b2 : Nat} {s1 s2 : St} (h : Has2 W b1 s1 b2 s2 w) : Below W.heap.size W w := by obtain ⟨_, _, _, _, _, h⟩ := h; exact h
theorem Has2.swap {W w : World} {b1 b2 : Nat} {s1 s2 : St} (h : Has2 W b1 s1 b2 s2 w) : Has2 W b2 s2 b1 s1 w := by
  obtain ⟨o1, o2, h1, h2, h3, h4⟩ := h; exact ⟨o2, o1, h2, h1, fun k hk hk1 => h3 k hk1 hk, h4⟩
theorem Has2.left {W w : World} {b1 b2 : Nat} {s1 s2 : St} (h : Has2 W b1 s1 b2 s2 w) : Has W b1 s1 w := by obtain ⟨o1, o2, h1, h2, h3, h4⟩ := h; exact ⟨o1, h1, h4⟩
theorem Has2.moved {W w w' : World} {b1 b2 : Nat} {s1 s1' s2 : St} {o1 o2 : List Nat} (h1 : Rep w W.heap.size b1 o1 s1) (h2 : Rep w W.heap.size b2 o2 s2) (h3 : ∀ k ∈ o1, k ∉ o2) (h4 : Below W.heap.size W w)
    (hm : Moved W.heap.size b1 o1 s1' w w') : Has2 W b1 s1' b2 s2 w' := by
  obtain ⟨o', a1, a2, a3⟩ := hm
  refine ⟨o', o2, a1, h2.kept a3 (fun k hk hk1 => h3 k hk1 hk), fun k hk hk2 => ?_, h4.trans (a3.below (fun x hx => (h1.own_lt x hx).1) h4.size)⟩
  rcases a2 k hk with h | h
  · exact h3 k h hk2
  · have := (h2.own_lt k hk2).2; omega
theorem Has2.below {W w w' : World} {b1 b2 : Nat} {s1 s2 : St} (h : Has2 W b1 s1 b2 s2 w) (hb : Below w.heap.size w w') : Has2 W b1 s1 b2 s2 w' := by
  obtain ⟨o1, o2, h1, h2, h3, h4⟩ := h
  exact ⟨o1, o2, h1.of_heap (fun k hk => hb.block k (h1.own_lt k hk).2), h2.of_heap (fun k hk => hb.block k (h2.own_lt k hk).2), h3, h4.trans (hb.mono h4.size)⟩

theorem do_2 {W w : World} {b1 b2 : Nat} {s1 s2 : St} (o : Act4) (h : Has2 W b1 s1 b2 s2 w) (hm : s1.l.length ≤ 1000000) :
    Calls Try.prog 9 #[.pointer (some ⟨b1, 0, none⟩), .agg #[.int .i64 o.kind, .int .i64 o.who, .int .i64 o.at_, .int .i64 o.v]] w fun e w' => e = .returned (.tuple #[]) ∧ Has2 W b1 (doS s1 o) b2 s2 w' := by
  obtain ⟨o1, o2, h1, h2, h3, h4⟩ := h
  exact (do_any w _ b1 o1 s1 o h1 hm).mono fun e w' ⟨a1, a2⟩ => ⟨a1, Has2.moved h1 h2 h3 h4 a2⟩
theorem prune_2 {W w : World} {b1 b2 : Nat} {s1 s2 : St} (t e0 : Int) (s' : St) (h : Has2 W b1 s1 b2 s2 w) (hm : s1.l.length ≤ 1000000) (he : pruneS s1 t = (s', e0)) :
    Calls Try.prog 21 #[.pointer (some ⟨b1, 0, none⟩), .int .i64 t] w fun e w' => e = .returned (.int .i64 e0) ∧ Has2 W b1 s' b2 s2 w' := by
  obtain ⟨o1, o2, h1, h2, h3, h4⟩ := h
  have hc := prune_any w _ b1 o1 s1 t h1 hm
  rw [he] at hc
  exact hc.mono fun e w' ⟨a1, a2⟩ => ⟨a1, Has2.moved h1 h2 h3 h4 a2⟩
theorem newest_2 {W w : World} {b1 b2 : Nat} {s1 s2 : St} (h : Has2 W b1 s1 b2 s2 w) (hm : s1.l.length ≤ 1000000) :
    Calls Try.prog 14 #[.pointer (some ⟨b1, 0, none⟩)] w fun e w' => e = .returned (.int .i64 (newest s1.l)) ∧ Has2 W b1 s1 b2 s2 w' := by
  have hh := h
  obtain ⟨o1, o2, h1, h2, h3, h4⟩ := h
  exact (newest_any w _ b1 o1 s1 h1 hm).mono fun e w' ⟨a1, a2⟩ => ⟨a1, hh.below a2⟩
theorem new_2 {W w : World} {b1 : Nat} {s1 : St} (h : Has W b1 s1 w) :
    Calls Try.prog 8 #[] w fun e w' => e = .returned (.pointer (some ⟨w.heap.size, 0, none⟩)) ∧ Has2 W b1 s1 w.heap.size s0 w' := by
  obtain ⟨o1, h1, h4⟩ := h
  refine (new_any w).mono fun e w' ⟨a1, own, a2, a3⟩ => ⟨a1, o1, own, h1.of_heap (fun k hk => a3.block k (h1.own_lt k hk).2), ?_, fun k hk hk2 => ?_, h4.trans (a3.mono h4.size)⟩
  · obtain ⟨a, cap, b1, b2, b3, b4⟩ := a2
    refine ⟨a, cap, b1, ?_, h4.size, b4⟩
    obtain ⟨c1, c2⟩ := b2
    refine ⟨c1, ?_⟩
    rcases c2 with c2 | ⟨g, c, cur, d1, d2, d3⟩
    · exact .inl c2
    · exact .inr ⟨g, c, cur, d1, Nat.le_trans h4.size d2, d3⟩
  · have e1 := (h1.own_lt k hk).2
    have e2 := (a2.own_lt k hk2).1
    omega

theorem sees_last {l : List V} {t : Int} (h0 : 0 < l.length) (h : newest l ≤ t) : sees l t = (l.length : Int) - 1 := by
  obtain ⟨v, hv, hn⟩ := newest_get h0
  unfold sees
  obtain ⟨n, hl⟩ : ∃ n, l.length = n + 1 := ⟨l.length - 1, by omega⟩
  rw [hl] at hv ⊢
  rw [show n + 1 - 1 = n from rfl] at hv
  rw [lastLe, hv]
  simp only [show v.from_ ≤ t from by omega, if_true]
  omega
theorem pruneN_le (l : List V) (t : Int) : pruneN l t ≤ l.length := by
  rcases sees_cases l t with hs | ⟨j, v, hs, hj, hv, _⟩
  · rw [prune_neg hs]; omega
  · rw [prune_at hs hv]; split <;> omega
/-- After a pruning no version, or the first one alone, which is not gone, is seen at that time. -/
theorem pruned_sees (l : List V) (t : Int) : sees (l.drop (pruneN l t)) t = -1 ∨ (sees (l.drop (pruneN l t)) t = 0 ∧ ∃ v, (l.drop (pruneN l t))[0]? = some v ∧ v.gone = false) := by
  rcases sees_cases l t with hs | ⟨j, v, hs, hj, hv, hvt⟩
  · rw [prune_neg hs]; exact .inl hs
  · rw [prune_at hs hv]
    have key : ∀ p, p ≤ l.length → ((sees (l.drop p) t = -1 ∧ sees l t = lastLe l t p) ∨ ∃ i : Nat, sees (l.drop p) t = i ∧ sees l t = (p : Int) + i) := fun p hpl => by
      have := lastLe_drop l p t (l.length - p) (by omega)
      rw [show p + (l.length - p) = l.length from by omega] at this
      unfold sees; rw [List.length_drop]; exact this
    cases hg : v.gone with
    | true =>
      simp only [if_true]
      rcases key (j + 1) (by omega) with ⟨h1, h2⟩ | ⟨i, h1, h2⟩
      · exact .inl h1
      · omega
    | false =>
      simp only [Bool.false_eq_true, if_false]
      rcases key j (by omega) with ⟨h1, h2⟩ | ⟨i, h1, h2⟩
      · exact .inl h1
      · right
        refine ⟨by omega, v, by rw [List.getElem?_drop, Nat.add_zero]; exact hv, hg⟩
theorem pruned_again (l : List V) (t : Int) : pruneN (l.drop (pruneN l t)) t = 0 := by
  rcases pruned_sees l t with h | ⟨h, v, hv, hg⟩
  · exact prune_neg h
  · rw [prune_at (j := 0) h hv, hg]; rfl
theorem pruned_few (l : List V) (t : Int) : ¬ (newest (l.drop (pruneN l t)) ≤ t ∧ 1 < (l.drop (pruneN l t)).length) := by
  rintro ⟨h1, h2⟩
  have h3 := sees_last (by omega) h1
  rcases pruned_sees l t with h | ⟨h, _⟩ <;> omega
end Go.Proofs.Ytelmaaokaakpbaa

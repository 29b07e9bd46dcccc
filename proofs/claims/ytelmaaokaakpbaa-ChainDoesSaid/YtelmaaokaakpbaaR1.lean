/- Layer 24: what a chain of the reference is in memory; the contracts of its methods that read. Conditions: the chain is there. -/
import Derived.Test.YtelmaaokaakpbaaP10
namespace Go.Proofs.Ytelmaaokaakpbaa
open Go.RowKit
set_option linter.unusedSimpArgs false
set_option linter.unusedVariables false

/-- A chain of the reference in block b that stands for s: what it holds counts only while somebody writes. -/
def RRep (w : World) (B b : Nat) (own : List Nat) (s : St) : Prop :=
  ∃ a cap hf hv hg, Block w b [.slice a s.l.length cap, .int .i64 s.who, .int .i64 hf, .int .i64 hv, .bool hg] 43 ∧
    w.ownsRow B 41 3 (.slice a s.l.length cap) s.l.length (rowV s.l) ∧ B ≤ b ∧ Owned s ∧ (s.who ≠ 0 → hv = s.val ∧ hg = s.gone) ∧
    ((Value.slice a s.l.length cap).ownBlock = none ∧ own = [b] ∨ ∃ g, (Value.slice a s.l.length cap).ownBlock = some g ∧ g ≠ b ∧ own = [b, g])

theorem RRep.of_heap {w w' : World} {B b : Nat} {own : List Nat} {s : St} (h : RRep w B b own s) (hh : ∀ k ∈ own, w'.heap[k]? = w.heap[k]?) : RRep w' B b own s := by
  obtain ⟨a, cap, x, y, z, hb, ho, hB, hw, hv, hf⟩ := h
  have hbo : b ∈ own := by rcases hf with ⟨_, rfl⟩ | ⟨g, _, _, rfl⟩ <;> simp
  refine ⟨a, cap, x, y, z, hb.of_heap (hh b hbo), ?_, hB, hw, hv, hf⟩
  obtain ⟨h1, h2⟩ := ho
  refine ⟨h1, ?_⟩
  rcases h2 with h2 | ⟨g, c, cur, h3, h4, h5, h6⟩
  · exact .inl h2
  · refine .inr ⟨g, c, cur, h3, h4, ?_, h6⟩
    rw [hh g ?_]; exact h5
    injection h3 with e1 e2 e3
    rcases hf with ⟨hn, _⟩ | ⟨g', hg, _, rfl⟩
    · rw [e1] at hn; simp [Value.ownBlock] at hn
    · rw [e1] at hg; simp [Value.ownBlock] at hg; subst hg; simp
theorem RRep.own_lt {w : World} {B b : Nat} {own : List Nat} {s : St} (h : RRep w B b own s) : ∀ k ∈ own, B ≤ k ∧ k < w.heap.size := by
  obtain ⟨a, cap, x, y, z, hb, ho, hB, _, _, hf⟩ := h
  intro k hk
  rcases hf with ⟨_, rfl⟩ | ⟨g, hg, _, rfl⟩
  · simp at hk; subst hk; exact ⟨hB, hb.lt⟩
  · simp at hk
    rcases hk with rfl | rfl
    · exact ⟨hB, hb.lt⟩
    · exact ho.lt _ hg
theorem RRep.kept {w w' : World} {B b : Nat} {own own2 : List Nat} {s : St} (h : RRep w B b own s) (hk : Kept own2 w w') (hd : ∀ k ∈ own, k ∉ own2) : RRep w' B b own s :=
  h.of_heap fun k hm => hk.block k (h.own_lt k hm).2 (hd k hm)
theorem RRep.below {w w' : World} {B b : Nat} {own : List Nat} {s : St} (h : RRep w B b own s) (hb : Below w.heap.size w w') : RRep w' B b own s :=
  h.of_heap fun k hm => hb.block k (h.own_lt k hm).2
def RMoved (B b : Nat) (own : List Nat) (s' : St) (w w' : World) : Prop :=
  ∃ own', RRep w' B b own' s' ∧ (∀ k ∈ own', k ∈ own ∨ w.heap.size ≤ k) ∧ Kept own w w'
theorem RMoved.below {w w' : World} {B b : Nat} {own : List Nat} {s : St} (h : RRep w B b own s) (hb : Below w.heap.size w w') : RMoved B b own s w w' := ⟨own, h.below hb, fun k hk => .inl hk, Kept.of_below hb⟩

theorem sees_fwd (l : List V) (t : Int) (k : Nat) (v : V) (h : l[k]? = some v) : lastLe l t (k + 1) = if v.from_ ≤ t then (k : Int) else lastLe l t k := by
  rw [lastLe, h]

theorem rsees_any (w : World) (B b : Nat) (own : List Nat) (s : St) (t : Int) (hr : RRep w B b own s) (hm : s.l.length ≤ 1000000) :
    Calls Try.prog 30 #[.pointer (some ⟨b, 0, none⟩), .int .i64 t] w fun e w' => e = .returned (.int .i64 (sees s.l t)) ∧ w = w' := by
  obtain ⟨a, cap, _, _, _, hb, ho, hB, _⟩ := hr
  have c0 := hb.cell (i := 0) rfl
  have HO := Lib.hid ho
  clear hb ho
  go_enter Try.func30, Try.ntmps30
  go_wp2_with fail
  go_loop [5, 6] (fun q i => ∃ (k : Nat) (z : Int), k ≤ s.l.length ∧ i = .int .i64 k ∧ q = .int .i64 z ∧ Hid (lastLe s.l t k = z)) (fun _ i => s.l.length - (intOf i).toNat)
  case atStart => exact ⟨0, -1, Nat.zero_le _, rfl, rfl, Lib.hid rfl⟩
  case round =>
    obtain ⟨k, z, hk, rfl, rfl, hh⟩ := hrel
    by_cases hlt : k < s.l.length
    · obtain ⟨v, hv⟩ : ∃ v, s.l[k]? = some v := ⟨_, List.getElem?_eq_getElem (by omega)⟩
      have HV := Lib.hid (sees_fwd s.l t k v hv)
      obtain ⟨g, rfl, d0, _, _⟩ := own_cells HO.out hv
      clear hv
      by_cases hle : v.from_ ≤ t
      · go_wp2_with fail
        go_round
        case rel => exact ⟨k + 1, _, by omega, by go_num, rfl, Lib.hid (by rw [HV.out, if_pos hle])⟩
        case measure => simp [intOf]; omega
      · go_wp2_with fail
        go_round
        case rel => exact ⟨k + 1, _, by omega, by go_num, rfl, Lib.hid (by rw [HV.out, if_neg hle, hh.out])⟩
        case measure => simp [intOf]; omega
    · obtain rfl : k = s.l.length := by omega
      go_wp2_with fail
      go_ret
      exact ⟨by rw [show sees s.l t = z from hh.out]; rfl, rfl⟩

theorem rnewest_any (w : World) (B b : Nat) (own : List Nat) (s : St) (hr : RRep w B b own s) (hm : s.l.length ≤ 1000000) :
    Calls Try.prog 20 #[.pointer (some ⟨b, 0, none⟩)] w fun e w' => e = .returned (.int .i64 (newest s.l)) ∧ ∃ n, w' = w.drewN n := by
  obtain ⟨a, cap, _, _, _, hb, ho, hB, _⟩ := hr
  have c0 := hb.cell (i := 0) rfl
  have HO := Lib.hid ho
  clear hb ho
  by_cases h3 : 0 < s.l.length
  · obtain ⟨v, hv, hn⟩ := newest_get h3
    obtain ⟨g, rfl, d0, _, _⟩ := own_cells HO.out hv
    have h3' : ((s.l.length : Int) == 0) = false := beq_eq_false_iff_ne.2 (by omega)
    have h4 : (0 : Int) ≤ (s.l.length : Int) - 1 := by omega
    have h5 : (s.l.length : Int) - 1 < s.l.length := by omega
    rw [hn]
    clear hv hn
    go_enter Try.func20, Try.ntmps20
    go_wp2_with fail
    go_quiet (fail)
    go_wp2_with fail
    go_ret
    exact ⟨rfl, nq, rfl⟩
  · have h3' : ((s.l.length : Int) == 0) = true := beq_iff_eq.2 (by omega)
    rw [newest_nil h3]
    go_enter Try.func20, Try.ntmps20
    go_wp2_with fail
    go_ret
    exact ⟨rfl, 0, rfl⟩
end Go.Proofs.Ytelmaaokaakpbaa

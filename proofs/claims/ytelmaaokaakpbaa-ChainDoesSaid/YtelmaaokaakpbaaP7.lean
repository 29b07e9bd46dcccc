/- Layer 24: the walk of ChainSees. Conditions: the lists can be read. -/
import Derived.Test.YtelmaaokaakpbaaP6
import Derived.Test.YtelmaaokaakpbaaOpen
namespace Go.Proofs.Ytelmaaokaakpbaa
open Go.RowKit
set_option linter.unusedSimpArgs false
set_option linter.unusedVariables false

theorem act_of_trod {H : Type} {enc : TypeId × Value → H} {w : World} {base : Nat} {spare : Nat → Bool} {held : Bool} (n : Nat) (cs : List Value) (y : DataW H × List MemPlace) (hl : cs.length = 4)
    (h : DataW.trod enc Try.prog w base spare held n 27 cs = some y) : ∃ o : Act4, cs = o.cells := by
  obtain ⟨xs, m, _, _, _, hxl, hf⟩ := DataW.trod_struct Try.underlying27 h
  match cs, hl with
  | [c0, c1, c2, c3], _ =>
    obtain ⟨n0, rfl⟩ := int_field hxl hf 0 _ rfl (by kernel_rfl) c0 rfl Try.underlying3
    obtain ⟨n1, rfl⟩ := int_field hxl hf 1 _ rfl (by kernel_rfl) c1 rfl Try.underlying2
    obtain ⟨n2, rfl⟩ := int_field hxl hf 2 _ rfl (by kernel_rfl) c2 rfl Try.underlying2
    obtain ⟨n3, rfl⟩ := int_field hxl hf 3 _ rfl (by kernel_rfl) c3 rfl Try.underlying2
    exact ⟨⟨n0, n1, n2, n3⟩, rfl⟩

theorem actsOpen {H : Type} {enc : TypeId × Value → H} {w : World} {base : Nat} {spare : Nat → Bool} {held : Bool} {fuel : Nat} {a : Option Addr} {len cap : Nat} {x : DataW H × List MemPlace}
    (h : DataW.trod enc Try.prog w base spare held fuel 22 [.slice a len cap] = some x) : ∃ os : List Act4, os.length = len ∧ len ≤ cap ∧ cap ≤ maxLen ∧ (a = none → cap = 0) ∧ (∀ o ∈ os, (Act4.cells o).length = 4) ∧ Cells w.heap.size w a (os.flatMap Act4.cells) := open_rows (α := Act4) Act4.cells 4 Try.underlying22 (by kernel_rfl) act_of_trod h
theorem Act4.four (os : List Act4) : ∀ o ∈ os, (Act4.cells o).length = 4 := fun _ _ => rfl

theorem runDo (s : St) (os : List Act4) (k : Nat) (o : Act4) (h : os[k]? = some o) : (os.take (k + 1)).foldl doS s = doS ((os.take k).foldl doS s) o := foldl_take_succ doS s h
theorem doS_len (s : St) (o : Act4) : (doS s o).l.length ≤ s.l.length + 1 := by
  unfold doS
  split
  · unfold writeS; split <;> simp
  · split
    · unfold eraseS; split
      · simp
      · split <;> simp
    · split
      · unfold commitS; split
        · simp
        · split <;> simp
      · split
        · unfold abortS; split <;> simp
        · split
          · unfold pruneS; simp; omega
          · omega
theorem runDo_len (os : List Act4) : ∀ s : St, (os.foldl doS s).l.length ≤ s.l.length + os.length := by
  induction os with
  | nil => intro s; simp
  | cons o os ih => intro s; rw [List.foldl_cons]; have := ih (doS s o); have := doS_len s o; simp; omega

theorem act_cells {W wr : World} {a : Option Addr} {os : List Act4} (hc : Cells W.heap.size W a (os.flatMap Act4.cells)) (hb : Below W.heap.size W wr) {k : Nat} {o : Act4} (hk : os[k]? = some o) :
    ∃ b off, a = some ⟨b, off, none⟩ ∧ b < W.heap.size ∧ wr.cell? ⟨b, off + k * 4, none⟩ = some (.int .i64 o.kind) ∧ wr.cell? ⟨b, off + k * 4 + 1, none⟩ = some (.int .i64 o.who) ∧ wr.cell? ⟨b, off + k * 4 + 2, none⟩ = some (.int .i64 o.at_) ∧ wr.cell? ⟨b, off + k * 4 + 3, none⟩ = some (.int .i64 o.v) := by
  obtain ⟨b, off, ha, hbs, hh⟩ := (hc.below hb (Nat.le_refl _)).elem (Act4.four os) (by omega) hk
  exact ⟨b, off, ha, hbs, hh 0 _ rfl, hh 1 _ rfl, hh 2 _ rfl, hh 3 _ rfl⟩

theorem lastLe_snoc (l : List V) (v : V) (t : Int) : ∀ k, k ≤ l.length → lastLe (l ++ [v]) t k = lastLe l t k := by
  intro k
  induction k with
  | zero => intro _; rfl
  | succ k ih => intro hk; rw [lastLe, lastLe, List.getElem?_append_left (by omega), ih (by omega)]
theorem sees_snoc {l : List V} {v : V} {t : Int} (h : ¬ v.from_ ≤ t) : sees (l ++ [v]) t = sees l t := by
  unfold sees
  rw [List.length_append, List.length_cons, List.length_nil, Nat.zero_add, lastLe]
  simp only [List.getElem?_append_right (Nat.le_refl _), Nat.sub_self, List.getElem?_cons_zero, h, if_false]
  exact lastLe_snoc l v t _ (Nat.le_refl _)
theorem seenV_snoc {l : List V} {v : V} {t : Int} (h : ¬ v.from_ ≤ t) : seenV (l ++ [v]) t = seenV l t := by
  rcases sees_cases l t with hs | ⟨j, u, hs, hj, hu, _⟩
  · rw [seen_neg hs, seen_neg ((sees_snoc h).trans hs)]
  · rw [seen_at hs hu, seen_at ((sees_snoc h).trans hs) (by rw [List.getElem?_append_left hj]; exact hu)]
/-- The newest version of a list from p on. -/
theorem lastLe_drop (l : List V) (p : Nat) (t : Int) : ∀ k, p + k ≤ l.length → (lastLe (l.drop p) t k = -1 ∧ lastLe l t (p + k) = lastLe l t p) ∨ ∃ j : Nat, lastLe (l.drop p) t k = j ∧ lastLe l t (p + k) = (p : Int) + j := by
  intro k
  induction k with
  | zero => intro _; exact .inl ⟨rfl, rfl⟩
  | succ k ih =>
    intro hk
    obtain ⟨v, hv⟩ : ∃ v, l[p + k]? = some v := ⟨_, List.getElem?_eq_getElem (by omega)⟩
    rw [show p + (k + 1) = (p + k) + 1 from rfl, lastLe, lastLe, List.getElem?_drop, hv]
    by_cases h : v.from_ ≤ t
    · simp only [h, if_true]; exact .inr ⟨k, rfl, by omega⟩
    · simp only [h, if_false]; exact ih (by omega)
theorem seenV_drop {l : List V} {u t : Int} (hut : u ≤ t) : seenV (l.drop (pruneN l u)) t = seenV l t := by
  rcases sees_cases l u with hs | ⟨j, v, hs, hj, hv, hvu⟩
  · rw [prune_neg hs]; rfl
  · have hp := prune_at hs hv
    have hle : v.from_ ≤ t := by omega
    have key : ∀ p, p ≤ l.length → ((sees (l.drop p) t = -1 ∧ sees l t = lastLe l t p) ∨ ∃ i : Nat, sees (l.drop p) t = i ∧ sees l t = (p : Int) + i) := fun p hpl => by
      have := lastLe_drop l p t (l.length - p) (by omega)
      rw [show p + (l.length - p) = l.length from by omega] at this
      unfold sees; rw [List.length_drop]; exact this
    have hjt : lastLe l t (j + 1) = j := by rw [lastLe, hv]; simp only [hle, if_true]
    cases hg : v.gone with
    | false =>
      rw [hg] at hp; simp only [Bool.false_eq_true, if_false] at hp
      rw [hp]
      rcases key j (by omega) with ⟨h1, h2⟩ | ⟨i, h1, h2⟩
      · exfalso
        have h3 := key (j + 1) (by omega)
        have hj0 : sees (l.drop j) t ≠ -1 := by
          intro h4
          have := lastLe_drop l j t 1 (by omega)
          rw [hjt] at this
          have h5 : lastLe (l.drop j) t 1 = 0 := by rw [lastLe, List.getElem?_drop, Nat.add_zero, hv]; simp only [hle, if_true]; rfl
          have h6 := lastLe_drop (l.drop j) 1 t (l.length - j - 1) (by rw [List.length_drop]; omega)
          unfold sees at h4
          rw [List.length_drop] at h4
          rw [show 1 + (l.length - j - 1) = l.length - j from by omega, h4, h5] at h6
          rcases h6 with h6 | ⟨i, h6⟩ <;> omega
        exact hj0 h1
      · rcases sees_cases (l.drop j) t with h3 | ⟨i', u', h3, h4, h5, _⟩
        · omega
        · have hii : i' = i := by omega
          subst hii
          rw [seen_at h3 h5, seen_at (j := j + i') (by rw [h2]; omega) (by rw [List.getElem?_drop] at h5; exact h5)]
    | true =>
      rw [hg] at hp; simp only [if_true] at hp
      rw [hp]
      rcases key (j + 1) (by omega) with ⟨h1, h2⟩ | ⟨i, h1, h2⟩
      · rw [seen_neg h1, seen_at (j := j) (by rw [h2, hjt]) hv, hg]; rfl
      · rcases sees_cases (l.drop (j + 1)) t with h3 | ⟨i', u', h3, h4, h5, _⟩
        · omega
        · have hii : i' = i := by omega
          subst hii
          rw [seen_at h3 h5, seen_at (j := j + 1 + i') (by rw [h2]; omega) (by rw [List.getElem?_drop] at h5; exact h5)]

theorem step_seen (s : St) (o : Act4) (t : Int) (h1 : ¬ (o.kind = 3 ∧ o.at_ ≤ t)) (h2 : ¬ (o.kind = 5 ∧ t < o.at_)) : seenV (doS s o).l t = seenV s.l t := by
  unfold doS
  split
  · unfold writeS; split <;> rfl
  · split
    · unfold eraseS; split
      · rfl
      · split <;> rfl
    · split
      · unfold commitS; split
        · rfl
        · split
          · rfl
          · exact seenV_snoc (fun h => h1 ⟨by assumption, h⟩)
      · split
        · unfold abortS; split <;> rfl
        · split
          · exact seenV_drop (by
              have : ¬ t < o.at_ := fun h => h2 ⟨by assumption, h⟩
              omega)
          · rfl
theorem read_zero (s : St) (t : Int) : readS s t 0 = seenV s.l t := read_not (by omega)
end Go.Proofs.Ytelmaaokaakpbaa

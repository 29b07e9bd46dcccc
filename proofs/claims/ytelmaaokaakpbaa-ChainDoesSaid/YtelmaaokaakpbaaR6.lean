/- Layer 24: what the reference's Prune keeps, in plain lists. Conditions: none. -/
import Derived.Test.YtelmaaokaakpbaaR5
namespace Go.Proofs.Ytelmaaokaakpbaa
open Go.RowKit
set_option linter.unusedSimpArgs false
set_option linter.unusedVariables false

theorem kept_gt {l : List V} {t : Int} {i : Nat} (h : sees l t < i) : pruneN l t ≤ i := by
  unfold pruneN
  split
  · omega
  · split
    · split <;> omega
    · omega
theorem kept_eq {l : List V} {t : Int} {i : Nat} {v : V} (h : sees l t = i) (hv : l[i]? = some v) (hg : v.gone = false) : pruneN l t = i := by
  rw [prune_at h hv, hg]; rfl
theorem gone_eq {l : List V} {t : Int} {i : Nat} {v : V} (h : sees l t = i) (hv : l[i]? = some v) (hg : v.gone = true) : pruneN l t = i + 1 := by
  rw [prune_at h hv, hg]; rfl
theorem gone_lt {l : List V} {t : Int} {i : Nat} {v : V} (h : (i : Int) < sees l t) (hl : ∃ v, l[(sees l t).toNat]? = some v) : i < pruneN l t := by
  unfold pruneN
  obtain ⟨v, hv⟩ := hl
  rw [if_neg (by omega), hv]
  show i < if v.gone then _ else _
  split <;> omega
theorem kept_step {l : List V} {i p : Nat} {v : V} (hv : l[i]? = some v) (h : p ≤ i) : (l.take (i + 1)).drop p = (l.take i).drop p ++ [v] := by
  rw [List.take_add_one, hv, List.drop_append_of_le_length]
  · rfl
  · have := (List.getElem?_eq_some_iff.1 hv).1
    simp; omega
theorem gone_step {l : List V} {i p : Nat} (h : i < p) : (l.take (i + 1)).drop p = (l.take i).drop p := by
  rw [List.drop_eq_nil_of_le (by simp; omega), List.drop_eq_nil_of_le (by simp; omega)]
end Go.Proofs.Ytelmaaokaakpbaa

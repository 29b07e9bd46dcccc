/- Worlds that are as one world below a block: all through a law's walk. Conditions: none. -/
import Derived.Test.YtdkgjbjlpofieaaWorks
import Derived.Test.YtdkgjbjlpofieaaExt
namespace Go.Proofs.Ytdkgjbjlpofieaa
open Go.RowKit
set_option linter.unusedVariables false

theorem wp_region_at {P : Program} {id : Nat} {Q : Exit → Act → World → Prop} {a : Act} {B : Nat} {w : World} (u : Ext B w) {l : List Oper} (hm : P.follows .mixedOrders = true) (hB : Region.lexB .any l.toArray = true)
    (h : wpQuiet P l.toArray (fun w' => ∃ u : Ext B w, w' = u.w) (fun a' => ∀ w', (∃ u : Ext B w, w' = u.w) → Q .normal a' w') l a) : (Code.region id l.toArray true).wp P Q a u.w :=
  wp_region_quiet (C := fun w' => ∃ u : Ext B w, w' = u.w) hm hB ⟨⟨u.w.drew, u.below.drew⟩, rfl⟩ (by simpa using h)
theorem Ext.start (B : Nat) (w : World) : ∃ u : Ext B w, w = u.w := ⟨⟨w, Below.refl _ _⟩, rfl⟩
theorem partsV_le (t : Vt) : partsV t ≤ wtV t := by
  refine t.down (p := fun t => partsV t ≤ wtV t) fun k b i s l ks ih => ?_
  have h : ∀ l : List Vt, (∀ (j : Nat) t, l[j]? = some t → partsV t ≤ wtV t) → partsVs l ≤ wtVs l := by
    intro l
    induction l with
    | nil => intro _; simp [partsVs, wtVs]
    | cons t ts ih2 =>
      intro h
      have h1 := h 0 t rfl
      have h2 := ih2 (fun j u hu => h (j + 1) u (by simpa using hu))
      simp only [partsVs, wtVs]
      omega
  have := h l ih
  simp only [partsV, wtV]
  omega
end Go.Proofs.Ytdkgjbjlpofieaa

/- Layer 3: names and values that came in, for the law ValueMaps. Conditions: none. -/
import Derived.Test.YtdkgjbjlpofieaaMaps
namespace Go.Proofs.Ytdkgjbjlpofieaa
open Go.RowKit Go.Deep Go.ChangeShapes Go.WideShapes
set_option linter.unusedVariables false
set_option maxRecDepth 100000

section
variable {H : Type} {enc : TypeId × Value → H} {w : World} {base : Nat} {spare : Nat → Bool} {held : Bool}
theorem strsOpen {fuel len cap : Nat} {a : Option Addr} {x : DataW H × List MemPlace} (h : DataW.trod enc Try.prog w base spare held fuel 22 [.slice a len cap] = some x) :
    ∃ ks : List ByteArray, ks.length = len ∧ len ≤ cap ∧ cap ≤ 9223372036854775807 ∧ (a = none → cap = 0) ∧ (ks.map fun k => k.size + 1).sum + 1 ≤ Rows.uptoBulk x.1 ∧ StrRow w.heap.size w a ks := by
  obtain ⟨a', cap', ks, h1, h2, h3, h4, h5⟩ := open_strs h
  injection h1 with e1 e2 e3
  subst e1 e2 e3
  exact ⟨ks, rfl, h2.1, h2.2, h3, h4, h5⟩
theorem valsOpen {fuel len cap : Nat} {a : Option Addr} {x : DataW H × List MemPlace} (h : DataW.trod enc Try.prog w base spare held fuel 23 [.slice a len cap] = some x) :
    ∃ l : List Vt, l.length = len ∧ len ≤ cap ∧ cap ≤ 9223372036854775807 ∧ (a = none → cap = 0) ∧ wtVs l + 1 ≤ Rows.uptoBulk x.1 ∧ IsVs w.heap.size w a 0 l := by
  obtain ⟨a', cap', l, h1, h2, h3, h4, h5⟩ := open_rowsP (IsV w.heap.size w) wtV 6 Try.underlying23 (by kernel_rfl) (by omega) (fun n cs y hy _ hh => open_value _ n cs y (Nat.le_refl _) hh) h
  injection h1 with e1 e2 e3
  subst e1 e2 e3
  refine ⟨l, rfl, h2.1, h2.2, h3, by rw [wtVs_sum]; exact h4, IsVs.mk fun i t ht => ?_⟩
  obtain ⟨b, off, cs, q1, q2, _, q4, q5⟩ := h5 i t ht
  exact ⟨b, off, cs, q1, q2, by rwa [Nat.zero_add], q5⟩
end
end Go.Proofs.Ytdkgjbjlpofieaa

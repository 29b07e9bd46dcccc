/- A slice of bytes that came in, read as its bytes. Conditions: the reading is given. -/
import Derived.Test.YteopfknoemifgaaP1
import Derived.Test.YteopfknoemifgaaOpen
namespace Go.Proofs.Yteopfknoemifgaa
open Go.RowKit Go.Deep Go.ChangeShapes Go.WideShapes

theorem flat_one' {α : Type} (f : α → Value) (l : List α) : l.flatMap (fun n => [f n]) = l.map f := by
  induction l with
  | nil => rfl
  | cons x l ih => simp [ih]
theorem byte_wf {n : Int} (h : (Lit.int .u8 n).wf = true) : ∃ c : UInt8, n = c.toNat := by
  have h2 : 0 ≤ n ∧ n ≤ 255 := by
    simp [Lit.wf, IntKind.min, IntKind.max, IntKind.bits, IntKind.signed] at h; omega
  refine ⟨UInt8.ofNat n.toNat, ?_⟩
  simp; omega
theorem bytesOpen {H : Type} {enc : TypeId × Value → H} {w : World} {base : Nat} {spare : Nat → Bool} {held : Bool} {fuel : Nat} {a : Option Addr} {len cap : Nat} {x : DataW H × List MemPlace}
    (h : DataW.trod enc Try.prog w base spare held fuel 30 [.slice a len cap] = some x) :
    ∃ l : List UInt8, l.length = len ∧ len ≤ cap ∧ cap ≤ maxLen ∧ (a = none → cap = 0) ∧ Cells w.heap.size w a (bys l) := by
  obtain ⟨os, h1, h2, h3, h4, _, h6⟩ := open_rows (fun c : UInt8 => [.int .u8 c.toNat]) 1 Try.underlying30 (by kernel_rfl) (fun n cs y _ hy => by
    obtain ⟨m, h1, _, h2⟩ := DataW.trod_int Try.underlying5 hy
    obtain ⟨c, rfl⟩ := byte_wf h2
    exact ⟨c, h1⟩) h
  rw [flat_one'] at h6
  exact ⟨os, h1, h2, h3, h4, h6⟩
end Go.Proofs.Yteopfknoemifgaa

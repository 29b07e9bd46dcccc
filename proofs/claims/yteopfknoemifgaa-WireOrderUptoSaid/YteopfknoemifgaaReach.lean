/- A slice of integers that came in, read as a row; and the reach of a slice that came in. Conditions: the reading is given. -/
import Derived.Test.YteopfknoemifgaaOpen
import Derived.SizedLaws
namespace Go.Proofs.Yteopfknoemifgaa
open Go.RowKit Go.Deep Go.ChangeShapes Go.WideShapes

theorem flat_one {α : Type} (f : α → Value) (l : List α) : l.flatMap (fun n => [f n]) = l.map f := by
  induction l with
  | nil => rfl
  | cons x l ih => simp [ih]

theorem ints_open {H : Type} {enc : TypeId × Value → H} {P : Program} {w : World} {base : Nat} {spare : Nat → Bool} {held : Bool} {t e : TypeId} {k : IntKind} {fuel : Nat} {a : Option Addr} {len cap : Nat} {x : DataW H × List MemPlace}
    (ht : P.underlying t = some (.slice e)) (he : P.underlying e = some (.int k)) (hC : P.cellsOf e = 1)
    (h : DataW.trod enc P w base spare held fuel t [.slice a len cap] = some x) :
    ∃ os : List Int, os.length = len ∧ len ≤ cap ∧ cap ≤ maxLen ∧ (a = none → cap = 0) ∧ Cells w.heap.size w a (os.map (.int k)) := by
  obtain ⟨os, h1, h2, h3, h4, _, h6⟩ := open_rows (fun n : Int => [.int k n]) 1 ht hC (fun n cs y _ hy => by
    obtain ⟨m, h1, _⟩ := DataW.trod_int he hy
    exact ⟨m, h1⟩) h
  rw [flat_one] at h6
  exact ⟨os, h1, h2, h3, h4, h6⟩

theorem slice_reach {H : Type} {enc : TypeId × Value → H} {P : Program} {w : World} {base : Nat} {held : Bool} {ts : List TypeId} {ds : List (DataW H)} {t e : TypeId} {fuel by_ : Nat} {a : Option Addr} {len cap : Nat} {d : DataW H} {p : List MemPlace}
    (hsz : (DataW.weightsEach P ts ds).all (· ≤ reachBytes) = true) (j : Nat) (ht : P.underlying t = some (.slice e)) (hb : P.bytesOf e = by_) (h1 : ts[j]? = some t) (h2 : ds[j]? = some d)
    (h : DataW.trod enc P w base (fun _ => true) held fuel t [.slice a len cap] = some (d, p)) : cap * by_ ≤ 140737488351232 := by
  rcases open_slice ht h with ⟨h0, _⟩ | ⟨b, l, c, m, n, D, Pl, hcs, _, hl, _, hmm, hx, _⟩
  · injection h0 with h0; injection h0 with e1 e2 e3; subst e3; simp
  · injection hcs with h0; injection h0 with e1 e2 e3; subst e1 e2 e3
    simp only [if_true] at hmm
    rw [hmm] at hx
    simp only [Prod.mk.injEq] at hx
    have := sized_slice hsz h1 (by rw [h2, hx.1]) ht
    simp only [List.length_map, List.length_range, reachBytes, hb] at this
    rw [show len + (cap - len) = cap from by omega] at this
    exact this
end Go.Proofs.Yteopfknoemifgaa

/- Layer 9: what an act does to a network, in plain lists. Conditions: none. -/
import Derived.Test.YteopfknoemifgaaOrder
namespace Go.Proofs.Yteopfknoemifgaa
open Go.RowKit
set_option linter.unusedSimpArgs false
set_option linter.unusedVariables false

def actN (N : List (Option Line)) (o : Act) : List (Option Line) :=
  if o.kind = 0 then openedN N else if o.kind = 1 then sendN N o.c o.b.l else if o.kind = 2 then takeN N o.c o.n else if o.kind = 3 then answerN N o.c o.b.l else if o.kind = 4 then cutN N o.c o.n else if o.kind = 5 then dropN N o.c else N

/-- N' is N, but for one line that is not the first one, or for one more behind. -/
theorem setLine_first {N : List (Option Line)} {c : Int} {f : Line → Option Line} (hc : c ≠ 1) : (setLine N c f)[0]? = N[0]? := by
  unfold setLine
  cases h : lineAt N c with
  | none => rfl
  | some p =>
    obtain ⟨h1, h2⟩ := lineAt_some (i := p.1) (x := p.2) h
    simp only
    rw [List.getElem?_set_ne (by omega)]
theorem actN_first {N : List (Option Line)} {o : Act} (hc : o.c ≠ 1) (h0 : 0 < N.length) : (actN N o)[0]? = N[0]? := by
  unfold actN openedN sendN takeN answerN cutN dropN
  split
  · split
    · rw [List.getElem?_append_left h0]
    · rfl
  · split
    · split
      · exact setLine_first hc
      · rfl
    · split
      · split
        · exact setLine_first hc
        · rfl
      · split
        · split
          · exact setLine_first hc
          · rfl
        · split
          · split
            · exact setLine_first hc
            · rfl
          · split
            · split
              · exact setLine_first hc
              · rfl
            · rfl
theorem setLine_length (N : List (Option Line)) (c : Int) (f : Line → Option Line) : (setLine N c f).length = N.length := by
  unfold setLine; split <;> simp
theorem actN_length (N : List (Option Line)) (o : Act) : N.length ≤ (actN N o).length ∧ (actN N o).length ≤ N.length + 1 := by
  unfold actN openedN sendN takeN answerN cutN dropN
  split
  · split
    · simp
    · simp
  · split
    · split
      · rw [setLine_length]; omega
      · omega
    · split
      · split
        · rw [setLine_length]; omega
        · omega
      · split
        · split
          · rw [setLine_length]; omega
          · omega
        · split
          · split
            · rw [setLine_length]; omega
            · omega
          · split
            · split
              · rw [setLine_length]; omega
              · omega
            · omega
theorem Small.mono {N : List (Option Line)} {M M' : Nat} (h : Small N M) (hM : M ≤ M') : Small N M' := fun i x hx => by have := h i x hx; omega
theorem Small.set {N : List (Option Line)} {M M' : Nat} (h : Small N M) (hM : M ≤ M') (c : Int) (f : Line → Option Line) (hf : ∀ x y, x.way.length ≤ M ∧ x.back.length ≤ M → f x = some y → y.way.length ≤ M' ∧ y.back.length ≤ M') : Small (setLine N c f) M' := by
  unfold setLine
  cases hl : lineAt N c with
  | none => exact h.mono hM
  | some p =>
    obtain ⟨h1, _⟩ := lineAt_some (i := p.1) (x := p.2) hl
    intro i x hx
    simp only [List.getElem?_set] at hx
    split at hx
    · split at hx
      · injection hx with hx
        exact hf _ _ (h _ _ h1) hx
      · cases hx
    · have := h i x hx; omega
theorem actN_small {N : List (Option Line)} {o : Act} {M : Nat} (h : Small N M) : Small (actN N o) (M + o.b.l.length) := by
  unfold actN openedN sendN takeN answerN cutN dropN
  split
  · split
    · intro i x hx
      by_cases hi : i < N.length
      · rw [List.getElem?_append_left hi] at hx; have := h i x hx; omega
      · rw [List.getElem?_append_right (by omega)] at hx
        have : x = newLine := by
          cases hk : i - N.length with
          | zero => rw [hk] at hx; simpa using hx.symm
          | succ k => rw [hk] at hx; simp at hx
        subst this; simp [newLine]
    · exact h.mono (by omega)
  · split
    · split
      · exact h.set (by omega) _ _ (fun x y hx hy => by injection hy with hy; subst hy; simp; omega)
      · exact h.mono (by omega)
    · split
      · split
        · exact h.set (by omega) _ _ (fun x y hx hy => by injection hy with hy; subst hy; simp; omega)
        · exact h.mono (by omega)
      · split
        · split
          · exact h.set (by omega) _ _ (fun x y hx hy => by injection hy with hy; subst hy; simp; omega)
          · exact h.mono (by omega)
        · split
          · split
            · exact h.set (by omega) _ _ (fun x y hx hy => by injection hy with hy; subst hy; simp; omega)
            · exact h.mono (by omega)
          · split
            · split
              · exact h.set (by omega) _ _ (fun x y hx hy => by cases hy)
              · exact h.mono (by omega)
            · exact h.mono (by omega)
end Go.Proofs.Yteopfknoemifgaa

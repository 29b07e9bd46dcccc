/- Layer 3: values whose memory is their own (no block twice): IsO. Conditions: none. -/
import Derived.Test.YtdkgjbjlpofieaaOrder
namespace Go.Proofs.Ytdkgjbjlpofieaa
open Go.RowKit
set_option linter.unusedSimpArgs false
set_option linter.unusedVariables false

/-- A row of texts that lies in a block of its own. -/
def OwnStr (w : World) (ka : Option Addr) (ks : List ByteArray) (bs : List Nat) : Prop :=
  (ks = [] ∧ bs = []) ∨ ∃ kb cur ty, ka = some ⟨kb, 0, none⟩ ∧ bs = [kb] ∧ Block w kb cur ty ∧ ∀ (j : Nat) x, ks[j]? = some x → cur[j]? = some (Value.string x)
/-- What stands in a value's own cells. -/
def HeadV (k i : Int) (n lc m kc : Nat) (la ka : Option Addr) : Prop := in64 k ∧ in64 i ∧ (n ≤ lc ∧ lc ≤ 9223372036854775807) ∧ (m ≤ kc ∧ kc ≤ 9223372036854775807) ∧ (la = none → lc = 0) ∧ (ka = none → kc = 0)
mutual
/-- These cells are that value, and its memory is the blocks bs. -/
def IsO (w : World) : List Value → Vt → List Nat → Prop
  | cs, .mk k b i s l ks, bs => ∃ la lc ka kc b1 b2, cs = [.int .i64 k, .bool b, .int .i64 i, .string s, .slice la l.length lc, .slice ka ks.length kc] ∧ HeadV k i l.length lc ks.length kc la ka ∧ bs = b1 ++ b2 ∧ OwnStr w ka ks b1 ∧
      ((l = [] ∧ b2 = []) ∨ ∃ lb cur ty b3, la = some ⟨lb, 0, none⟩ ∧ b2 = lb :: b3 ∧ Block w lb cur ty ∧ IsOs w cur 0 l b3)
/-- From element n on the cells of a row hold those values. -/
def IsOs (w : World) : List Value → Nat → List Vt → List Nat → Prop
  | _, _, [], bs => bs = []
  | cur, n, t :: ts, bs => ∃ cs b1 b2, bs = b1 ++ b2 ∧ (∀ (j : Nat) v, cs[j]? = some v → cur[n * 6 + j]? = some v) ∧ IsO w cs t b1 ∧ IsOs w cur (n + 1) ts b2
end
theorem OwnStr.same {w w' : World} {ka : Option Addr} {ks : List ByteArray} {bs : List Nat} (h : OwnStr w ka ks bs) (hs : ∀ b ∈ bs, w'.heap[b]? = w.heap[b]?) : OwnStr w' ka ks bs := by
  rcases h with h | ⟨kb, cur, ty, h1, h2, h3, h4⟩
  · exact .inl h
  · exact .inr ⟨kb, cur, ty, h1, h2, h3.of_heap (hs kb (by rw [h2]; simp)), h4⟩
theorem OwnStr.row {w : World} {ka : Option Addr} {ks : List ByteArray} {bs : List Nat} {B : Nat} (h : OwnStr w ka ks bs) (hs : ∀ b ∈ bs, b < B) : StrRow B w ka ks := by
  rcases h with ⟨h, _⟩ | ⟨kb, cur, ty, h1, h2, h3, h4⟩
  · subst h; exact .inl rfl
  · refine .inr ⟨kb, 0, h1, hs kb (by rw [h2]; simp), fun i v hv => ?_⟩
    rw [List.getElem?_map] at hv
    cases hk : ks[i]? with
    | none => rw [hk] at hv; cases hv
    | some x => rw [hk] at hv; cases hv; rw [Nat.zero_add]; exact h3.cell (h4 i x hk)
theorem isOs_all {w : World} {p : Vt → List Nat → List Value → Prop} (l : List Vt) : ∀ (cur : List Value) (n : Nat) (bs : List Nat), IsOs w cur n l bs →
    ∀ (j : Nat) t, l[j]? = some t → ∃ cs b1 b2 b3, bs = b1 ++ b2 ++ b3 ∧ (∀ (q : Nat) v, cs[q]? = some v → cur[(n + j) * 6 + q]? = some v) ∧ IsO w cs t b2 := by
  induction l with
  | nil => intro _ _ _ _ j t h; simp at h
  | cons u us ih =>
    intro cur n bs h j t ht
    unfold IsOs at h
    obtain ⟨cs, b1, b2, h1, h2, h3, h4⟩ := h
    cases j with
    | zero => simp at ht; subst ht; exact ⟨cs, [], b1, b2, by rw [h1]; rfl, h2, h3⟩
    | succ j =>
      obtain ⟨cs', c1, c2, c3, g1, g2, g3⟩ := ih cur (n + 1) b2 h4 j t (by simpa using ht)
      refine ⟨cs', b1 ++ c1, c2, c3, by rw [h1, g1]; simp, ?_, g3⟩
      rwa [show n + 1 + j = n + (j + 1) from by omega] at g2
theorem IsOs.same {w w' : World} (l : List Vt) (ih : ∀ (j : Nat) t, l[j]? = some t → ∀ cs bs, IsO w cs t bs → (∀ b ∈ bs, w'.heap[b]? = w.heap[b]?) → IsO w' cs t bs) :
    ∀ (cur : List Value) (n : Nat) (bs : List Nat), IsOs w cur n l bs → (∀ b ∈ bs, w'.heap[b]? = w.heap[b]?) → IsOs w' cur n l bs := by
  induction l with
  | nil => intro cur n bs h _; unfold IsOs at h ⊢; exact h
  | cons u us ih2 =>
    intro cur n bs h hs
    unfold IsOs at h ⊢
    obtain ⟨cs, b1, b2, h1, h2, h3, h4⟩ := h
    subst h1
    exact ⟨cs, b1, b2, rfl, h2, ih 0 u rfl cs b1 h3 (fun b hb => hs b (by simp [hb])), ih2 (fun j t ht => ih (j + 1) t (by simpa using ht)) cur (n + 1) b2 h4 (fun b hb => hs b (by simp [hb]))⟩
theorem IsO.same {w w' : World} (t : Vt) : ∀ cs bs, IsO w cs t bs → (∀ b ∈ bs, w'.heap[b]? = w.heap[b]?) → IsO w' cs t bs := by
  refine t.down (p := fun t => ∀ cs bs, IsO w cs t bs → (∀ b ∈ bs, w'.heap[b]? = w.heap[b]?) → IsO w' cs t bs) fun k b i s l ks ih cs bs h hs => ?_
  unfold IsO at h ⊢
  obtain ⟨la, lc, ka, kc, b1, b2, h1, h2, h3, h4, h5⟩ := h
  subst h3
  refine ⟨la, lc, ka, kc, b1, b2, h1, h2, rfl, h4.same (fun b hb => hs b (by simp [hb])), ?_⟩
  rcases h5 with h5 | ⟨lb, cur, ty, b3, g1, g2, g3, g4⟩
  · exact .inl h5
  · subst g2
    exact .inr ⟨lb, cur, ty, b3, g1, rfl, g3.of_heap (hs lb (by simp)), IsOs.same l ih cur 0 b3 g4 (fun b hb => hs b (by simp [hb]))⟩
/-- A value of its own memory is a value. -/
theorem IsO.isV {w : World} {B : Nat} (t : Vt) : ∀ cs bs, IsO w cs t bs → (∀ b ∈ bs, b < B) → IsV B w cs t := by
  refine t.down (p := fun t => ∀ cs bs, IsO w cs t bs → (∀ b ∈ bs, b < B) → IsV B w cs t) fun k b i s l ks ih cs bs h hs => ?_
  unfold IsO at h
  unfold IsV
  obtain ⟨la, lc, ka, kc, b1, b2, h1, ⟨e1, e2, e3, e4, e5, e6⟩, h3, h4, h5⟩ := h
  subst h3
  refine ⟨la, lc, ka, kc, h1, e1, e2, e3, e4, e5, e6, h4.row (fun b hb => hs b (by simp [hb])), IsVs.mk fun j t ht => ?_⟩
  rcases h5 with ⟨h5, _⟩ | ⟨lb, cur, ty, b3, g1, g2, g3, g4⟩
  · subst h5; simp at ht
  · subst g2
    obtain ⟨cs', c1, c2, c3, f1, f2, f3⟩ := isOs_all (p := fun _ _ _ => True) l cur 0 b3 g4 j t ht
    exact ⟨lb, 0, cs', g1, hs lb (by simp), fun q v hv => by rw [Nat.zero_add]; exact g3.cell (f2 q v hv), ih j t ht cs' c2 f3 (fun b hb => hs b (by rw [f1]; simp [hb]))⟩
end Go.Proofs.Ytdkgjbjlpofieaa

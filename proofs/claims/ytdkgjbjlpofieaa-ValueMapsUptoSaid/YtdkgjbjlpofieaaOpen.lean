/- A slice that came in, read as a row of elements of whatever kind: each element's cells. Conditions: each element's reading tells its cells. -/
import Derived.Test.YtdkgjbjlpofieaaBase
import Derived.Deep.Slices
import Derived.ChangeArms
namespace Go.Proofs.Ytdkgjbjlpofieaa
open Go.RowKit Go.Deep Go.ChangeShapes Go.WideShapes

theorem spot_none {w : World} {a : Addr} {v : Value} (h : w.cell? a = some v) : a = ⟨a.block, a.off, none⟩ := by
  have := World.cell?_spot h
  cases a; simp_all

theorem flat_get {α : Type} {f : α → List Value} {size : Nat} {os : List α} (hf : ∀ o ∈ os, (f o).length = size) {i : Nat} {v : Value} (h : (os.flatMap f)[i]? = some v) :
    ∃ k j o, i = k * size + j ∧ j < size ∧ os[k]? = some o ∧ (f o)[j]? = some v := by
  induction os generalizing i with
  | nil => simp at h
  | cons o os ih =>
    have h0 := hf o (by simp)
    rw [List.flatMap_cons] at h
    by_cases hi : i < size
    · rw [List.getElem?_append_left (by omega)] at h
      exact ⟨0, i, o, by omega, hi, rfl, h⟩
    · rw [List.getElem?_append_right (by omega), h0] at h
      obtain ⟨k, j, u, h1, h2, h3, h4⟩ := ih (fun u hu => hf u (by simp [hu])) h
      refine ⟨k + 1, j, u, ?_, h2, by simpa using h3, h4⟩
      rw [Nat.succ_mul]; omega

theorem choose_list {α : Type} {p : Nat → α → Prop} {n : Nat} (h : ∀ i, i < n → ∃ o, p i o) : ∃ os : List α, os.length = n ∧ ∀ (i : Nat) o, os[i]? = some o → p i o := by
  induction n with
  | zero => exact ⟨[], rfl, by simp⟩
  | succ n ih =>
    obtain ⟨os, h1, h2⟩ := ih (fun i hi => h i (by omega))
    obtain ⟨o, ho⟩ := h n (by omega)
    refine ⟨os ++ [o], by simp [h1], fun i u hu => ?_⟩
    by_cases hin : i < os.length
    · rw [List.getElem?_append_left hin] at hu; exact h2 i u hu
    · rw [List.getElem?_append_right (by omega)] at hu
      have : i = n := by
        have := (List.getElem?_eq_some_iff.1 hu).1
        simp at this; omega
      subst this
      rw [show i - os.length = 0 from by omega] at hu
      simp at hu; subst hu; exact ho

theorem open_rows {H : Type} {enc : TypeId × Value → H} {P : Program} {w : World} {base : Nat} {spare : Nat → Bool} {held : Bool} {α : Type} (f : α → List Value) (size : Nat) {t e : TypeId} {fuel : Nat} {a : Option Addr} {len cap : Nat} {x : DataW H × List MemPlace}
    (ht : P.underlying t = some (.slice e)) (hC : P.cellsOf e = size)
    (hel : ∀ (n : Nat) (cs : List Value) (y : DataW H × List MemPlace), cs.length = size → DataW.trod enc P w base spare held n e cs = some y → ∃ o : α, cs = f o)
    (h : DataW.trod enc P w base spare held fuel t [.slice a len cap] = some x) :
    ∃ os : List α, os.length = len ∧ len ≤ cap ∧ cap ≤ maxLen ∧ (a = none → cap = 0) ∧ (∀ o ∈ os, (f o).length = size) ∧ Cells w.heap.size w a (os.flatMap f) := by
  rcases open_slice ht h with ⟨h0, _⟩ | ⟨b, l, c, m, n, D, Pl, hcs, hb, hl, hm, hmm, hx, hi⟩
  · injection h0 with h0; injection h0 with h1 h2 h3; subst h1 h2 h3
    exact ⟨[], rfl, Nat.le_refl _, Nat.zero_le _, fun _ => rfl, by simp, .inl rfl⟩
  · injection hcs with h0; injection h0 with h1 h2 h3; subst h1 h2 h3
    have hlm : len ≤ m := by subst hmm; split <;> omega
    have hex : ∀ i, i < len → ∃ o : α, (f o).length = size ∧ ∀ j v, (f o)[j]? = some v → w.cell? (b.add (i * size + j)) = some v := by
      intro i hil
      obtain ⟨cs', hc, ht'⟩ := hi i (by omega)
      rw [hC] at hc
      obtain ⟨_, hcl, hat⟩ := World.cells?_some hc
      obtain ⟨o, rfl⟩ := hel n cs' _ hcl ht'
      refine ⟨o, hcl, fun j v hj => ?_⟩
      have hjl : j < size := by rw [← hcl]; exact (List.getElem?_eq_some_iff.1 hj).1
      rw [← Go.Deep.add_add, hat j hjl, hj]
    obtain ⟨os, h1, h2⟩ := choose_list hex
    refine ⟨os, h1, hl, hm, (fun h => by cases h), fun o ho => ?_, ?_⟩
    · obtain ⟨i, hi⟩ := List.getElem?_of_mem ho
      exact (h2 i o hi).1
    · have hlen : ∀ o ∈ os, (f o).length = size := fun o ho => by obtain ⟨i, hi⟩ := List.getElem?_of_mem ho; exact (h2 i o hi).1
      by_cases hne : os.flatMap f = []
      · exact .inl hne
      · obtain ⟨v0, hv0⟩ : ∃ v, (os.flatMap f)[0]? = some v := by
          cases hq : os.flatMap f with
          | nil => exact absurd hq hne
          | cons v t => exact ⟨v, rfl⟩
        have hall : ∀ (i : Nat) v, (os.flatMap f)[i]? = some v → w.cell? (b.add i) = some v := fun i v hv => by
          obtain ⟨k, j, o, rfl, _, ho, hj⟩ := flat_get hlen hv
          exact (h2 k o ho).2 j v hj
        have hc0 := hall 0 v0 hv0
        have hsp : b = ⟨b.block, b.off, none⟩ := by
          have h0 : b.add 0 = b := by cases b; simp [Addr.add]
          rw [h0] at hc0; exact spot_none hc0
        refine .inr ⟨b.block, b.off, by rw [← hsp], ?_, fun i v hv => ?_⟩
        · have h0 : b.add 0 = b := by cases b; simp [Addr.add]
          rw [h0] at hc0; exact World.block_lt_of_cell? w _ hc0
        · have := hall i v hv
          rw [hsp, addr_add] at this; exact this

/-- One field of a struct that is read, if it takes one cell: its cell is read. -/
theorem one_field {H : Type} {enc : TypeId × Value → H} {P : Program} {w : World} {base : Nat} {spare : Nat → Bool} {held : Bool} {fs : Array Field} {m : Nat} {cs : List Value} {xs : List (DataW H × List MemPlace)}
    (hl : xs.length = fs.size) (hf : ∀ (i : Nat) (f : Field), fs[i]? = some f → DataW.trod enc P w base spare held m f.type ((cs.drop f.offset).take (P.cellsOf f.type)) = xs[i]?)
    (i : Nat) (f : Field) (hi : fs[i]? = some f) (hc : P.cellsOf f.type = 1) (c : Value) (hcs : cs[f.offset]? = some c) : ∃ y, DataW.trod enc P w base spare held m f.type [c] = some y := by
  have h1 := hf i f hi
  have h2 := (Array.getElem?_eq_some_iff.1 hi).1
  obtain ⟨h3, h4⟩ := List.getElem?_eq_some_iff.1 hcs
  rw [hc, List.drop_eq_getElem_cons h3, h4] at h1
  exact ⟨_, h1.trans (List.getElem?_eq_getElem (by omega))⟩
theorem int_field {H : Type} {enc : TypeId × Value → H} {P : Program} {w : World} {base : Nat} {spare : Nat → Bool} {held : Bool} {fs : Array Field} {m : Nat} {cs : List Value} {xs : List (DataW H × List MemPlace)}
    (hl : xs.length = fs.size) (hf : ∀ (i : Nat) (f : Field), fs[i]? = some f → DataW.trod enc P w base spare held m f.type ((cs.drop f.offset).take (P.cellsOf f.type)) = xs[i]?)
    (i : Nat) (f : Field) (hi : fs[i]? = some f) (hc : P.cellsOf f.type = 1) (c : Value) (hcs : cs[f.offset]? = some c) {k : IntKind} (hu : P.underlying f.type = some (.int k)) : ∃ n, c = .int k n := by
  obtain ⟨y, hy⟩ := one_field hl hf i f hi hc c hcs
  obtain ⟨n, h1, _⟩ := DataW.trod_int hu hy
  injection h1 with h1
  exact ⟨n, h1⟩

/-- One element of such a row: its cells. -/
theorem Cells.elem {α : Type} {f : α → List Value} {size : Nat} {B : Nat} {w : World} {a : Option Addr} {os : List α} (h : Cells B w a (os.flatMap f)) (hf : ∀ o ∈ os, (f o).length = size) (hs : 0 < size) {k : Nat} {o : α} (hk : os[k]? = some o) :
    ∃ b off, a = some ⟨b, off, none⟩ ∧ b < B ∧ ∀ j v, (f o)[j]? = some v → w.cell? ⟨b, off + (k * size + j), none⟩ = some v := by
  have key : ∀ (os : List α) (k : Nat), (∀ o ∈ os, (f o).length = size) → os[k]? = some o → ∀ j v, (f o)[j]? = some v → (os.flatMap f)[k * size + j]? = some v := by
    intro os
    induction os with
    | nil => intro k _ h; simp at h
    | cons u os ih =>
      intro k hf hk j v hj
      have h0 := hf u (by simp)
      rw [List.flatMap_cons]
      cases k with
      | zero =>
        simp at hk; subst hk
        have := (List.getElem?_eq_some_iff.1 hj).1
        rw [Nat.zero_mul, Nat.zero_add, List.getElem?_append_left this]; exact hj
      | succ k =>
        rw [List.getElem?_append_right (by rw [Nat.succ_mul]; omega), h0, show (k + 1) * size + j - size = k * size + j from by rw [Nat.succ_mul]; omega]
        exact ih k (fun o ho => hf o (by simp [ho])) (by simpa using hk) j v hj
  rcases h with h | ⟨b, off, h1, h2, h3⟩
  · exfalso
    have hm := List.mem_of_getElem? hk
    have hl := hf o hm
    cases hq : f o with
    | nil => rw [hq] at hl; simp at hl; omega
    | cons v t =>
      have := key os k hf hk 0 v (by rw [hq]; rfl)
      rw [h] at this; simp at this
  · exact ⟨b, off, h1, h2, fun j v hj => h3 _ _ (key os k hf hk j v hj)⟩
end Go.Proofs.Ytdkgjbjlpofieaa

/- Slices of slices of bytes, and of acts, that came in. Conditions: the reading is given; its bulk bounds all bytes together. -/
import Derived.Test.YteopfknoemifgaaBytes
import Derived.Test.YteopfknoemifgaaBulk
namespace Go.Proofs.Yteopfknoemifgaa
open Go.RowKit Go.Deep Go.ChangeShapes Go.WideShapes

/-- A slice of bytes that came in. -/
structure Bs where
  a : Option Addr
  cap : Nat
  l : List UInt8
def Bs.v (o : Bs) : Value := .slice o.a o.l.length o.cap
def Bs.ok (w : World) (o : Bs) : Prop := Cells w.heap.size w o.a (bys o.l) ∧ (o.a = none → o.cap = 0) ∧ o.l.length ≤ o.cap

theorem bulkAll_sum {H : Type} (l : List (DataW H)) : Rows.uptoBulkAll l = (l.map Rows.uptoBulk).sum := by
  induction l with
  | nil => rfl
  | cons x l ih => simp [Rows.uptoBulkAll, ih]
theorem sum_le {α : Type} (f : α → Nat) (g : Nat → Nat) : ∀ (os : List α) (k : Nat), (∀ (i : Nat) o, os[i]? = some o → f o ≤ g (k + i)) → (os.map f).sum ≤ ((List.range' k os.length).map g).sum := by
  intro os
  induction os with
  | nil => intro k _; simp
  | cons o os ih =>
    intro k h
    have h0 := h 0 o rfl
    have := ih (k + 1) (fun i u hu => by have := h (i + 1) u (by simpa using hu); rwa [show k + 1 + i = k + (i + 1) from by omega])
    simp only [List.map_cons, List.sum_cons, List.length_cons, List.range'_succ]
    rw [Nat.add_zero] at h0
    omega

/-- One slice of bytes, with its bulk. -/
theorem bs_of_trod {H : Type} {enc : TypeId × Value → H} {w : World} {base : Nat} {spare : Nat → Bool} {held : Bool} {fuel : Nat} {c : Value} {y : DataW H × List MemPlace}
    (h : DataW.trod enc Try.prog w base spare held fuel 30 [c] = some y) : ∃ o : Bs, c = o.v ∧ o.ok w ∧ o.l.length ≤ Rows.uptoBulk y.1 := by
  have hh := h
  rcases open_slice Try.underlying30 h with ⟨h0, hy⟩ | ⟨b, len, cap, m, n, D, Pl, hcs, _, hl, hm, hmm, hx, _⟩
  · injection h0 with h0
    subst h0
    exact ⟨⟨none, 0, []⟩, rfl, ⟨.inl rfl, fun _ => rfl, Nat.le_refl _⟩, Nat.zero_le _⟩
  · injection hcs with h0
    subst h0
    obtain ⟨l, h1, h2, h3, h4, h5⟩ := bytesOpen hh
    subst h1
    refine ⟨⟨some b, cap, l⟩, rfl, ⟨h5, h4, h2⟩, ?_⟩
    rw [hx]
    have := bulks.slice_le ((List.range l.length).map D) ((List.range (m - l.length)).map fun j => D (l.length + j))
    simp only [List.length_map, List.length_range] at this
    simp only
    omega

/-- A slice of elements, each read with its bulk. -/
theorem open_rows_bulk {H : Type} {enc : TypeId × Value → H} {P : Program} {w : World} {base : Nat} {spare : Nat → Bool} {held : Bool} {α : Type} (f : α → List Value) (len_ : α → Nat) (size : Nat) {t e : TypeId} {fuel : Nat} {a : Option Addr} {len cap : Nat} {x : DataW H × List MemPlace}
    (ht : P.underlying t = some (.slice e)) (hC : P.cellsOf e = size)
    (hel : ∀ (n : Nat) (cs : List Value) (y : DataW H × List MemPlace), cs.length = size → DataW.trod enc P w base spare held n e cs = some y → ∃ o : α, cs = f o ∧ len_ o ≤ Rows.uptoBulk y.1)
    (h : DataW.trod enc P w base spare held fuel t [.slice a len cap] = some x) :
    ∃ os : List α, os.length = len ∧ len ≤ cap ∧ cap ≤ maxLen ∧ (a = none → cap = 0) ∧ (os.map len_).sum + os.length ≤ Rows.uptoBulk x.1 + Rows.uptoBulk x.1 ∧ (os.map len_).sum ≤ Rows.uptoBulk x.1 ∧ Cells w.heap.size w a (os.flatMap f) := by
  rcases open_slice ht h with ⟨h0, _⟩ | ⟨b, l, c, m, n, D, Pl, hcs, hb, hl, hm, hmm, hx, hi⟩
  · injection h0 with h0; injection h0 with h1 h2 h3; subst h1 h2 h3
    exact ⟨[], rfl, Nat.le_refl _, Nat.zero_le _, fun _ => rfl, by simp, by simp, .inl rfl⟩
  · injection hcs with h0; injection h0 with h1 h2 h3; subst h1 h2 h3
    have hlm : len ≤ m := by subst hmm; split <;> omega
    have hex : ∀ i, i < len → ∃ o : α, ((f o).length = size ∧ ∀ j v, (f o)[j]? = some v → w.cell? (b.add (i * size + j)) = some v) ∧ len_ o ≤ Rows.uptoBulk (D i) := by
      intro i hil
      obtain ⟨cs', hc, ht'⟩ := hi i (by omega)
      rw [hC] at hc
      obtain ⟨_, hcl, hat⟩ := World.cells?_some hc
      obtain ⟨o, rfl, hle⟩ := hel n cs' _ hcl ht'
      refine ⟨o, ⟨hcl, fun j v hj => ?_⟩, hle⟩
      have hjl : j < size := by rw [← hcl]; exact (List.getElem?_eq_some_iff.1 hj).1
      rw [← Go.Deep.add_add, hat j hjl, hj]
    obtain ⟨os, h1, h2⟩ := choose_list hex
    have hsum : (os.map len_).sum ≤ Rows.uptoBulkAll ((List.range len).map D) := by
      have := sum_le len_ (fun i => Rows.uptoBulk (D i)) os 0 (fun i o ho => by rw [Nat.zero_add]; exact (h2 i o ho).2)
      rw [bulkAll_sum, List.map_map, List.range_eq_range', ← h1]; exact this
    have hel2 := bulks.slice_elems ((List.range len).map D) ((List.range (m - len)).map fun j => D (len + j))
    have hel3 := bulks.slice_le ((List.range len).map D) ((List.range (m - len)).map fun j => D (len + j))
    simp only [List.length_map, List.length_range] at hel3
    refine ⟨os, h1, hl, hm, (fun h => by cases h), by rw [hx]; simp only; omega, by rw [hx]; simp only; omega, ?_⟩
    have hlen : ∀ o ∈ os, (f o).length = size := fun o ho => by obtain ⟨i, hi⟩ := List.getElem?_of_mem ho; exact (h2 i o hi).1.1
    by_cases hne : os.flatMap f = []
    · exact .inl hne
    · obtain ⟨v0, hv0⟩ : ∃ v, (os.flatMap f)[0]? = some v := by
        cases hq : os.flatMap f with
        | nil => exact absurd hq hne
        | cons v t => exact ⟨v, rfl⟩
      have hall : ∀ (i : Nat) v, (os.flatMap f)[i]? = some v → w.cell? (b.add i) = some v := fun i v hv => by
        obtain ⟨k, j, o, rfl, _, ho, hj⟩ := flat_get hlen hv
        exact (h2 k o ho).1.2 j v hj
      have hc0 := hall 0 v0 hv0
      have hsp : b = ⟨b.block, b.off, none⟩ := by
        have h0 : b.add 0 = b := by cases b; simp [Addr.add]
        rw [h0] at hc0; exact spot_none hc0
      refine .inr ⟨b.block, b.off, by rw [← hsp], ?_, fun i v hv => ?_⟩
      · have h0 : b.add 0 = b := by cases b; simp [Addr.add]
        rw [h0] at hc0; exact World.block_lt_of_cell? w _ hc0
      · have := hall i v hv
        rw [hsp, addr_add] at this; exact this

theorem sentOpen {H : Type} {enc : TypeId × Value → H} {w : World} {base : Nat} {spare : Nat → Bool} {held : Bool} {fuel : Nat} {a : Option Addr} {len cap : Nat} {x : DataW H × List MemPlace}
    (h : DataW.trod enc Try.prog w base spare held fuel 22 [.slice a len cap] = some x) :
    ∃ os : List Bs, os.length = len ∧ len ≤ maxLen ∧ (os.map fun o => o.l.length).sum ≤ Rows.uptoBulk x.1 ∧ (∀ o ∈ os, o.ok w) ∧ Cells w.heap.size w a (os.map Bs.v) := by
  obtain ⟨os, h1, h2, h3, _, _, h5, h6⟩ := open_rows_bulk (α := { o : Bs // o.ok w }) (fun o => [o.1.v]) (fun o => o.1.l.length) 1 Try.underlying22 (by kernel_rfl) (fun n cs y hl hy => by
    match cs, hl with
    | [c], _ =>
      obtain ⟨o, h1, h2, h3⟩ := bs_of_trod hy
      exact ⟨⟨o, h2⟩, by rw [h1], h3⟩) h
  rw [flat_one'] at h6
  refine ⟨os.map (·.1), by simpa using h1, by omega, by simpa [Function.comp_def] using h5, fun o ho => ?_, by simpa [Function.comp_def] using h6⟩
  obtain ⟨u, _, rfl⟩ := List.mem_map.1 ho
  exact u.2

/-- An act that came in. -/
structure Act where
  kind : Int
  c : Int
  n : Int
  b : Bs
def Act.cells (o : Act) : List Value := [.int .i64 o.kind, .int .i64 o.c, .int .i64 o.n, o.b.v]
def Act.ok (w : World) (o : Act) : Prop := o.b.ok w ∧ (Lit.int .i64 o.c).wf = true ∧ (Lit.int .i64 o.n).wf = true
theorem wf_field {H : Type} {enc : TypeId × Value → H} {P : Program} {w : World} {base : Nat} {spare : Nat → Bool} {held : Bool} {fs : Array Field} {m : Nat} {cs : List Value} {xs : List (DataW H × List MemPlace)}
    (hl : xs.length = fs.size) (hf : ∀ (i : Nat) (f : Field), fs[i]? = some f → DataW.trod enc P w base spare held m f.type ((cs.drop f.offset).take (P.cellsOf f.type)) = xs[i]?)
    (i : Nat) (f : Field) (hi : fs[i]? = some f) (hc : P.cellsOf f.type = 1) (c : Value) (hcs : cs[f.offset]? = some c) {k : IntKind} (hu : P.underlying f.type = some (.int k)) : ∃ n, c = .int k n ∧ (Lit.int k n).wf = true := by
  obtain ⟨y, hy⟩ := one_field hl hf i f hi hc c hcs
  obtain ⟨n, h1, _, h2⟩ := DataW.trod_int hu hy
  injection h1 with h1
  exact ⟨n, h1, h2⟩
theorem act_of_trod {H : Type} {enc : TypeId × Value → H} {w : World} {base : Nat} {spare : Nat → Bool} {held : Bool} (n : Nat) (cs : List Value) (y : DataW H × List MemPlace) (hl : cs.length = 4)
    (h : DataW.trod enc Try.prog w base spare held n 48 cs = some y) : ∃ o : Act, cs = o.cells ∧ o.ok w ∧ o.b.l.length ≤ Rows.uptoBulk y.1 := by
  obtain ⟨xs, m, _, hy, _, hxl, hf⟩ := DataW.trod_struct Try.underlying48 h
  match cs, hl with
  | [c0, c1, c2, c3], _ =>
    obtain ⟨n0, rfl, _⟩ := wf_field hxl hf 0 _ rfl (by kernel_rfl) c0 rfl Try.underlying3
    obtain ⟨n1, rfl, w1⟩ := wf_field hxl hf 1 _ rfl (by kernel_rfl) c1 rfl Try.underlying3
    obtain ⟨n2, rfl, w2⟩ := wf_field hxl hf 2 _ rfl (by kernel_rfl) c2 rfl Try.underlying3
    have hcell : Try.prog.cellsOf 30 = 1 := by kernel_rfl
    have h3 := hf 3 _ rfl
    have h3' : DataW.trod enc Try.prog w base spare held m 30 [c3] = xs[3]? := by
      rw [← h3]; show _ = DataW.trod enc Try.prog w base spare held m 30 (([Value.int .i64 n0, Value.int .i64 n1, Value.int .i64 n2, c3].drop 3).take (Try.prog.cellsOf 30))
      rw [hcell]; rfl
    have hx3 : 3 < xs.length := by rw [hxl]; decide
    rw [List.getElem?_eq_getElem hx3] at h3'
    obtain ⟨o, h4, h5, h6⟩ := bs_of_trod h3'
    refine ⟨⟨n0, n1, n2, o⟩, by rw [h4]; rfl, ⟨h5, w1, w2⟩, ?_⟩
    rw [hy]
    have hm := bulks.part_le (d := xs[3].1) (l := xs.map (·.1)) (List.mem_map.2 ⟨xs[3], List.getElem_mem _, rfl⟩)
    simp only [Rows.uptoBulk]
    omega
theorem actsOpen {H : Type} {enc : TypeId × Value → H} {w : World} {base : Nat} {spare : Nat → Bool} {held : Bool} {fuel : Nat} {a : Option Addr} {len cap : Nat} {x : DataW H × List MemPlace}
    (h : DataW.trod enc Try.prog w base spare held fuel 41 [.slice a len cap] = some x) :
    ∃ os : List Act, os.length = len ∧ len ≤ maxLen ∧ (os.map fun o => o.b.l.length).sum ≤ Rows.uptoBulk x.1 ∧ (∀ o ∈ os, o.ok w) ∧ Cells w.heap.size w a (os.flatMap Act.cells) := by
  obtain ⟨os, h1, h2, h3, _, _, h5, h6⟩ := open_rows_bulk (α := { o : Act // o.ok w }) (fun o => o.1.cells) (fun o => o.1.b.l.length) 4 Try.underlying41 (by kernel_rfl) (fun n cs y hl hy => by
    obtain ⟨o, h1, h2, h3⟩ := act_of_trod n cs y hl hy
    exact ⟨⟨o, h2⟩, h1, h3⟩) h
  refine ⟨os.map (·.1), by simpa using h1, by omega, by simpa [Function.comp_def] using h5, fun o ho => ?_, by simpa [List.flatMap_map] using h6⟩
  obtain ⟨u, _, rfl⟩ := List.mem_map.1 ho
  exact u.2
end Go.Proofs.Yteopfknoemifgaa

/- The acts that came in: rows of structs with a row of texts each. Conditions: what is read is of bulk at most 1048576. -/
import Derived.Test.YtaonfacbmolklaaWorks
import Derived.Test.YtaonfacbmolklaaOpen
import Derived.Test.YtaonfacbmolklaaBulk
import Derived.Test.YtaonfacbmolklaaRows
namespace Go.Proofs.Ytaonfacbmolklaa
open Go.RowKit Go.Deep Go.ChangeShapes Go.WideShapes
set_option linter.unusedVariables false

def in64 (n : Int) : Prop := -9223372036854775808 ≤ n ∧ n ≤ 9223372036854775807
theorem bulkAll_sum {H : Type} (l : List (DataW H)) : Rows.uptoBulkAll l = (l.map Rows.uptoBulk).sum := by
  induction l with
  | nil => rfl
  | cons x l ih => simp [Rows.uptoBulkAll, ih]
theorem sum_le {α : Type} (f : α → Nat) (g : Nat → Nat) : ∀ (os : List α) (k : Nat), (∀ (i : Nat) o, os[i]? = some o → f o ≤ g (k + i)) → (os.map f).sum ≤ ((List.range' k os.length).map g).sum := by
  intro os
  induction os with
  | nil => intro k _; simp
  | cons o os ih =>
    intro k h
    have h0 := h 0 o rfl
    have := ih (k + 1) (fun i u hu => by have := h (i + 1) u (by simpa using hu); rwa [show k + 1 + i = k + (i + 1) from by omega])
    simp only [List.map_cons, List.sum_cons, List.length_cons, List.range'_succ]
    rw [Nat.add_zero] at h0
    omega
theorem sum_get {α : Type} (f : α → Nat) {l : List α} {i : Nat} {x : α} (h : l[i]? = some x) : f x ≤ (l.map f).sum := by
  induction l generalizing i with
  | nil => simp at h
  | cons u us ih =>
    cases i with
    | zero => simp at h; subst h; simp only [List.map_cons, List.sum_cons]; omega
    | succ i => have := ih (i := i) (by simpa using h); simp only [List.map_cons, List.sum_cons]; omega
/-- A slice that came in, read element by element, whatever an element's reading tells; the elements' bulks are less than the slice's. -/
theorem open_rowsP {H : Type} {enc : TypeId × Value → H} {P : Program} {w : World} {base : Nat} {spare : Nat → Bool} {held : Bool} {α : Type} (R : List Value → α → Prop) (wt : α → Nat) (size : Nat) {t e : TypeId} {fuel : Nat} {c : Value} {x : DataW H × List MemPlace}
    (ht : P.underlying t = some (.slice e)) (hC : P.cellsOf e = size) (hs0 : 0 < size)
    (hel : ∀ (n : Nat) (cs : List Value) (y : DataW H × List MemPlace), Rows.uptoBulk y.1 < Rows.uptoBulk x.1 → cs.length = size → DataW.trod enc P w base spare held n e cs = some y → ∃ o : α, R cs o ∧ wt o ≤ Rows.uptoBulk y.1)
    (h : DataW.trod enc P w base spare held fuel t [c] = some x) :
    ∃ (a : Option Addr) (cap : Nat) (os : List α), c = .slice a os.length cap ∧ (os.length ≤ cap ∧ cap ≤ 9223372036854775807) ∧ (a = none → cap = 0) ∧ (os.map wt).sum + 1 ≤ Rows.uptoBulk x.1 ∧
      ∀ (i : Nat) (o : α), os[i]? = some o → ∃ b off cs, a = some ⟨b, off, none⟩ ∧ b < w.heap.size ∧ cs.length = size ∧ (∀ j v, cs[j]? = some v → w.cell? ⟨b, off + (i * size + j), none⟩ = some v) ∧ R cs o := by
  rcases open_slice ht h with ⟨h0, hx⟩ | ⟨b, l, cp, m, n, D, Pl, hcs, hb, hl, hm, hmm, hx, hi⟩
  · injection h0 with h0
    subst h0 hx
    exact ⟨none, 0, [], rfl, ⟨Nat.le_refl _, by omega⟩, fun _ => rfl, by simp [Rows.uptoBulk], fun i o h => by simp at h⟩
  · injection hcs with h0
    subst h0
    have hlm : l ≤ m := by subst hmm; split <;> omega
    have hxb : Rows.uptoBulk x.1 = Rows.uptoBulkAll ((List.range l).map D) + Rows.uptoBulkAll ((List.range (m - l)).map fun j => D (l + j)) + 1 := by rw [hx]; rfl
    have hD : ∀ i, i < l → Rows.uptoBulk (D i) < Rows.uptoBulk x.1 := fun i hil => by
      have := sum_get Rows.uptoBulk (l := (List.range l).map D) (i := i) (x := D i) (by simp [hil])
      rw [← bulkAll_sum] at this
      omega
    have hex : ∀ i, i < l → ∃ o : α, (∃ cs, cs.length = size ∧ (∀ j v, cs[j]? = some v → w.cell? (b.add (i * size + j)) = some v) ∧ R cs o) ∧ wt o ≤ Rows.uptoBulk (D i) := by
      intro i hil
      obtain ⟨cs', hc, ht'⟩ := hi i (by omega)
      rw [hC] at hc
      obtain ⟨_, hcl, hat⟩ := World.cells?_some hc
      obtain ⟨o, hR, hle⟩ := hel n cs' _ (hD i hil) hcl ht'
      refine ⟨o, ⟨cs', hcl, fun j v hj => ?_, hR⟩, hle⟩
      have hjl : j < size := by rw [← hcl]; exact (List.getElem?_eq_some_iff.1 hj).1
      rw [← Go.Deep.add_add, hat j hjl, hj]
    obtain ⟨os, h1, h2⟩ := choose_list hex
    have hsum : (os.map wt).sum ≤ Rows.uptoBulkAll ((List.range l).map D) := by
      have := sum_le wt (fun i => Rows.uptoBulk (D i)) os 0 (fun i o ho => by rw [Nat.zero_add]; exact (h2 i o ho).2)
      rw [bulkAll_sum, List.map_map, List.range_eq_range', ← h1]; exact this
    subst h1
    refine ⟨some b, cp, os, rfl, ⟨hl, hm⟩, (fun h => by cases h), by omega, fun i o ho => ?_⟩
    obtain ⟨⟨cs, g1, g2, g3⟩, _⟩ := h2 i o ho
    obtain ⟨v0, hv0⟩ : ∃ v, cs[0]? = some v := ⟨cs[0], List.getElem?_eq_getElem (by omega)⟩
    have hsp : b = ⟨b.block, b.off, none⟩ := by
      have hi0 : 0 < os.length := by have := (List.getElem?_eq_some_iff.1 ho).1; omega
      obtain ⟨⟨cs', k1, k2, _⟩, _⟩ := h2 0 os[0] (List.getElem?_eq_getElem hi0)
      have h1 := k2 0 cs'[0] (List.getElem?_eq_getElem (by omega))
      have h2 : b.add (0 * size + 0) = b := by rw [Nat.zero_mul]; rfl
      rw [h2] at h1
      exact spot_none h1
    refine ⟨b.block, b.off, cs, by rw [← hsp], ?_, g1, fun j v hv => ?_, g3⟩
    · have := World.block_lt_of_cell? w _ (g2 0 v0 hv0)
      rw [hsp, addr_add] at this
      exact this
    · have := g2 j v hv
      rw [hsp, addr_add] at this
      exact this
/-- A slice of texts. -/
theorem open_strs {H : Type} {enc : TypeId × Value → H} {w : World} {base : Nat} {spare : Nat → Bool} {held : Bool} {fuel : Nat} {c : Value} {x : DataW H × List MemPlace}
    (h : DataW.trod enc Try.prog w base spare held fuel 29 [c] = some x) :
    ∃ (a : Option Addr) (cap : Nat) (ks : List ByteArray), c = .slice a ks.length cap ∧ (ks.length ≤ cap ∧ cap ≤ 9223372036854775807) ∧ (a = none → cap = 0) ∧ (ks.map fun k => k.size + 1).sum + 1 ≤ Rows.uptoBulk x.1 ∧ StrRow w.heap.size w a ks := by
  obtain ⟨a, cap, ks, h1, h2, h3, h4, h5⟩ := open_rowsP (fun cs (k : ByteArray) => cs = [.string k]) (fun k => k.size + 1) 1 Try.underlying29 (by kernel_rfl) (by omega) (fun n cs y _ hcl hy => by
    obtain ⟨s, rfl, hy1, _⟩ := DataW.trod_string Try.underlying9 hy
    refine ⟨s, rfl, ?_⟩
    rw [hy1]
    simp [Rows.uptoBulk]) h
  refine ⟨a, cap, ks, h1, h2, h3, h4, ?_⟩
  by_cases hk : ks = []
  · subst hk; exact .inl rfl
  obtain ⟨k0, hk0⟩ : ∃ k, ks[0]? = some k := by
    cases ks with
    | nil => exact absurd rfl hk
    | cons k _ => exact ⟨k, rfl⟩
  obtain ⟨b, off, _, hab, hbl, _⟩ := h5 0 k0 hk0
  refine .inr ⟨b, off, hab, hbl, fun i v hv => ?_⟩
  rw [List.getElem?_map] at hv
  cases hki : ks[i]? with
  | none => rw [hki] at hv; cases hv
  | some k =>
    rw [hki] at hv
    cases hv
    obtain ⟨b', off', cs, hab', _, _, hc, rfl⟩ := h5 i k hki
    rw [hab] at hab'
    cases hab'
    have := hc 0 _ rfl
    rwa [Nat.mul_one, Nat.add_zero] at this
/-- One field's reading. -/
theorem field_trod {H : Type} {enc : TypeId × Value → H} {P : Program} {w : World} {base : Nat} {spare : Nat → Bool} {held : Bool} {fs : Array Field} {m : Nat} {cs : List Value} {xs : List (DataW H × List MemPlace)}
    (hl : xs.length = fs.size) (hf : ∀ (i : Nat) (f : Field), fs[i]? = some f → DataW.trod enc P w base spare held m f.type ((cs.drop f.offset).take (P.cellsOf f.type)) = xs[i]?)
    (i : Nat) (f : Field) (hi : fs[i]? = some f) (hc : P.cellsOf f.type = 1) (c : Value) (hcs : cs[f.offset]? = some c) : ∃ y, xs[i]? = some y ∧ DataW.trod enc P w base spare held m f.type [c] = some y := by
  have h1 := hf i f hi
  have h2 := (Array.getElem?_eq_some_iff.1 hi).1
  obtain ⟨h3, h4⟩ := List.getElem?_eq_some_iff.1 hcs
  rw [hc, List.drop_eq_getElem_cons h3, h4] at h1
  exact ⟨_, List.getElem?_eq_getElem (by omega), h1.trans (List.getElem?_eq_getElem (by omega))⟩
theorem in64_of_wf {n : Int} (h : (Lit.int .i64 n).wf = true) : in64 n := by
  simp only [Lit.wf, Bool.and_eq_true, decide_eq_true_eq] at h
  have h1 : IntKind.i64.min = -9223372036854775808 := by decide
  have h2 : IntKind.i64.max = 9223372036854775807 := by decide
  rw [h1, h2] at h
  exact h
theorem wf_field {H : Type} {enc : TypeId × Value → H} {P : Program} {w : World} {base : Nat} {spare : Nat → Bool} {held : Bool} {fs : Array Field} {m : Nat} {cs : List Value} {xs : List (DataW H × List MemPlace)}
    (hl : xs.length = fs.size) (hf : ∀ (i : Nat) (f : Field), fs[i]? = some f → DataW.trod enc P w base spare held m f.type ((cs.drop f.offset).take (P.cellsOf f.type)) = xs[i]?)
    (i : Nat) (f : Field) (hi : fs[i]? = some f) (hc : P.cellsOf f.type = 1) (c : Value) (hcs : cs[f.offset]? = some c) {k : IntKind} (hu : P.underlying f.type = some (.int k)) : ∃ n, c = .int k n ∧ (Lit.int k n).wf = true := by
  obtain ⟨y, hy⟩ := one_field hl hf i f hi hc c hcs
  obtain ⟨n, h1, _, h2⟩ := DataW.trod_int hu hy
  injection h1 with h1
  exact ⟨n, h1, h2⟩
/-- An act that came in. -/
structure Op where
  kind : Int
  who : Int
  at_ : Int
  a : Option Addr
  c : Nat
  l : List ByteArray
def Op.cells (o : Op) : List Value := [.int .i64 o.kind, .int .i64 o.who, .int .i64 o.at_, .slice o.a o.l.length o.c]
structure Op.ok (W : World) (o : Op) : Prop where
  row : StrRow W.heap.size W o.a o.l
  cap : o.l.length ≤ o.c ∧ o.c ≤ 9223372036854775807
  nil : o.a = none → o.c = 0
  kind : in64 o.kind
  who : in64 o.who
  at_ : in64 o.at_
theorem len_sum (ks : List ByteArray) : ks.length ≤ (ks.map fun k => k.size + 1).sum := by
  induction ks with
  | nil => simp
  | cons k ks ih => simp only [List.map_cons, List.sum_cons, List.length_cons]; omega
theorem op_of_trod {H : Type} {enc : TypeId × Value → H} {w : World} {base : Nat} {spare : Nat → Bool} {held : Bool} (n : Nat) (cs : List Value) (y : DataW H × List MemPlace) (hl : cs.length = 4)
    (h : DataW.trod enc Try.prog w base spare held n 31 cs = some y) : ∃ o : Op, (cs = o.cells ∧ o.ok w) ∧ o.l.length + 1 ≤ Rows.uptoBulk y.1 := by
  obtain ⟨xs, m, _, hy, _, hxl, hf⟩ := DataW.trod_struct Try.underlying31 h
  match cs, hl with
  | [c0, c1, c2, c3], _ =>
    obtain ⟨n0, rfl, w0⟩ := wf_field hxl hf 0 _ rfl (by kernel_rfl) c0 rfl Try.underlying3
    obtain ⟨n1, rfl, w1⟩ := wf_field hxl hf 1 _ rfl (by kernel_rfl) c1 rfl Try.underlying2
    obtain ⟨n2, rfl, w2⟩ := wf_field hxl hf 2 _ rfl (by kernel_rfl) c2 rfl Try.underlying2
    obtain ⟨y3, hx3, h3⟩ := field_trod hxl hf 3 _ rfl (by kernel_rfl) c3 rfl
    obtain ⟨a, cap, ks, rfl, hc, hnil, hb, hrow⟩ := open_strs h3
    refine ⟨⟨n0, n1, n2, a, cap, ks⟩, ⟨rfl, hrow, hc, hnil, in64_of_wf w0, in64_of_wf w1, in64_of_wf w2⟩, ?_⟩
    rw [hy]
    have hm := bulks.part_le (d := y3.1) (l := xs.map (·.1)) (List.mem_map.2 ⟨y3, List.mem_of_getElem? hx3, rfl⟩)
    have := len_sum ks
    simp only [Rows.uptoBulk]
    show ks.length + 1 ≤ _
    omega
theorem opsOpen {H : Type} {enc : TypeId × Value → H} {w : World} {base : Nat} {spare : Nat → Bool} {held : Bool} {fuel : Nat} {a : Option Addr} {len cap : Nat} {x : DataW H × List MemPlace}
    (h : DataW.trod enc Try.prog w base spare held fuel 22 [.slice a len cap] = some x) :
    ∃ os : List Op, os.length = len ∧ (os.map fun o => o.l.length + 1).sum + 1 ≤ Rows.uptoBulk x.1 ∧ (∀ o ∈ os, o.ok w) ∧ Cells w.heap.size w a (os.flatMap Op.cells) := by
  obtain ⟨a', cap', os, h1, h2, h3, h4, h5⟩ := open_rowsP (fun cs (o : Op) => cs = o.cells ∧ o.ok w) (fun o => o.l.length + 1) 4 Try.underlying22 (by kernel_rfl) (by omega) (fun n cs y _ hl hy => op_of_trod n cs y hl hy) h
  injection h1 with e1 e2 e3
  subst e1 e2 e3
  refine ⟨os, rfl, h4, fun o ho => ?_, ?_⟩
  · obtain ⟨i, hi⟩ := List.mem_iff_getElem?.1 ho
    obtain ⟨b, off, cs, _, _, _, _, _, h6⟩ := h5 i o hi
    exact h6
  · by_cases hne : os = []
    · subst hne; exact .inl rfl
    · obtain ⟨o0, ho0⟩ : ∃ o, os[0]? = some o := get_some (List.length_pos_iff.2 hne)
      obtain ⟨b, off, cs, hab, hb, _⟩ := h5 0 o0 ho0
      refine .inr ⟨b, off, hab, hb, fun i v hv => ?_⟩
      obtain ⟨k, j, o, rfl, _, ho, hj⟩ := flat_get (size := 4) (fun o _ => rfl) hv
      obtain ⟨b', off', cs', hab', _, _, hcs, rfl, _⟩ := h5 k o ho
      rw [hab] at hab'
      injection hab' with hab'
      injection hab' with e1 e2
      subst e1 e2
      exact hcs j v hj
end Go.Proofs.Ytaonfacbmolklaa

/- Values (api.Value) as trees: what lies in memory, and how it is read. Conditions: none. -/
import Derived.Test.YtdkgjbjlpofieaaOpen
import Derived.Test.YtdkgjbjlpofieaaBulk
import Derived.Test.YtdkgjbjlpofieaaRows
namespace Go.Proofs.Ytdkgjbjlpofieaa
open Go.RowKit Go.Deep Go.ChangeShapes Go.WideShapes
set_option linter.unusedVariables false

/-- A value of the language. -/
inductive Vt where
  | mk (kind : Int) (bool : Bool) (int : Int) (str : ByteArray) (list : List Vt) (keys : List ByteArray)
def in64 (n : Int) : Prop := -9223372036854775808 ≤ n ∧ n ≤ 9223372036854775807
/-- A row of texts. -/
def StrRow (B : Nat) (w : World) (a : Option Addr) (ks : List ByteArray) : Prop := Cells B w a (ks.map Value.string)
mutual
/-- These cells are that value (all its memory lies below block B). -/
def IsV (B : Nat) (w : World) : List Value → Vt → Prop
  | cs, .mk k b i s l ks => ∃ la lc ka kc, cs = [.int .i64 k, .bool b, .int .i64 i, .string s, .slice la l.length lc, .slice ka ks.length kc] ∧ in64 k ∧ in64 i ∧ (l.length ≤ lc ∧ lc ≤ 9223372036854775807) ∧ (ks.length ≤ kc ∧ kc ≤ 9223372036854775807) ∧
      (la = none → lc = 0) ∧ (ka = none → kc = 0) ∧ StrRow B w ka ks ∧ IsVs B w la 0 l
/-- From element n on a row holds those values. -/
def IsVs (B : Nat) (w : World) : Option Addr → Nat → List Vt → Prop
  | _, _, [] => True
  | a, n, t :: ts => (∃ b off cs, a = some ⟨b, off, none⟩ ∧ b < B ∧ (∀ j v, cs[j]? = some v → w.cell? ⟨b, off + (n * 6 + j), none⟩ = some v) ∧ IsV B w cs t) ∧ IsVs B w a (n + 1) ts
end
mutual
/-- How much a value weighs. -/
def wtV : Vt → Nat
  | .mk _ _ _ s l ks => 1 + s.size + (ks.map fun k => k.size + 1).sum + wtVs l
def wtVs : List Vt → Nat
  | [] => 0
  | t :: ts => wtV t + wtVs ts
end
theorem wtV_pos (t : Vt) : 1 ≤ wtV t := by cases t; unfold wtV; omega
theorem wtVs_sum (l : List Vt) : wtVs l = (l.map wtV).sum := by
  induction l with
  | nil => simp [wtVs]
  | cons t ts ih => simp [wtVs, ih]
theorem wtVs_len (l : List Vt) : l.length ≤ wtVs l := by
  induction l with
  | nil => simp
  | cons t ts ih => have := wtV_pos t; simp only [wtVs, List.length_cons]; omega
theorem wtVs_get {l : List Vt} {i : Nat} {t : Vt} (h : l[i]? = some t) : wtV t ≤ wtVs l := by
  induction l generalizing i with
  | nil => simp at h
  | cons u us ih =>
    cases i with
    | zero => simp at h; subst h; simp only [wtVs]; omega
    | succ i => have := ih (i := i) (by simpa using h); simp only [wtVs]; omega
/-- Going down a value. -/
theorem Vt.down {p : Vt → Prop} (h : ∀ k b i s l ks, (∀ (j : Nat) t, l[j]? = some t → p t) → p (.mk k b i s l ks)) (t : Vt) : p t := by
  induction hn : wtV t using Nat.strongRecOn generalizing t with
  | _ n ih =>
    obtain ⟨k, b, i, s, l, ks⟩ := t
    refine h k b i s l ks fun j t ht => ih (wtV t) ?_ t rfl
    have := wtVs_get ht
    rw [← hn]
    simp only [wtV]
    omega
/-- One element of such a row. -/
theorem IsVs.get {B : Nat} {w : World} {a : Option Addr} {l : List Vt} : ∀ {n : Nat}, IsVs B w a n l → ∀ (i : Nat) (t : Vt), l[i]? = some t →
    ∃ b off cs, a = some ⟨b, off, none⟩ ∧ b < B ∧ (∀ j v, cs[j]? = some v → w.cell? ⟨b, off + ((n + i) * 6 + j), none⟩ = some v) ∧ IsV B w cs t := by
  induction l with
  | nil => intro n _ i t h; simp at h
  | cons u us ih =>
    intro n h i t ht
    unfold IsVs at h
    cases i with
    | zero => simp at ht; subst ht; exact h.1
    | succ i =>
      have := ih h.2 i t (by simpa using ht)
      rwa [show n + 1 + i = n + (i + 1) from by omega] at this
theorem IsVs.mk {B : Nat} {w : World} {a : Option Addr} {l : List Vt} : ∀ {n : Nat}, (∀ (i : Nat) (t : Vt), l[i]? = some t →
    ∃ b off cs, a = some ⟨b, off, none⟩ ∧ b < B ∧ (∀ j v, cs[j]? = some v → w.cell? ⟨b, off + ((n + i) * 6 + j), none⟩ = some v) ∧ IsV B w cs t) → IsVs B w a n l := by
  induction l with
  | nil => intro n _; simp [IsVs]
  | cons u us ih =>
    intro n h
    unfold IsVs
    exact ⟨h 0 u rfl, ih fun i t ht => by
      have := h (i + 1) t (by simpa using ht)
      rwa [show n + (i + 1) = n + 1 + i from by omega] at this⟩
theorem IsV.below {B B' : Nat} {w w' : World} (hb : Below B' w w') (hB : B ≤ B') (t : Vt) : ∀ cs, IsV B w cs t → IsV B w' cs t := by
  refine t.down (p := fun t => ∀ cs, IsV B w cs t → IsV B w' cs t) fun k b i s l ks ih cs h => ?_
  unfold IsV at h ⊢
  obtain ⟨la, lc, ka, kc, h1, h2, h3, h4, h5, h6, h7, h8, h9⟩ := h
  refine ⟨la, lc, ka, kc, h1, h2, h3, h4, h5, h6, h7, h8.below hb hB, IsVs.mk fun j t ht => ?_⟩
  obtain ⟨b, off, cs', g1, g2, g3, g4⟩ := h9.get j t ht
  exact ⟨b, off, cs', g1, g2, fun q v hv => by rw [hb.cell (by show b < B'; omega)]; exact g3 q v hv, ih j t ht cs' g4⟩
theorem IsV.mono {B B' : Nat} {w : World} (hB : B ≤ B') (t : Vt) : ∀ cs, IsV B w cs t → IsV B' w cs t := by
  refine t.down (p := fun t => ∀ cs, IsV B w cs t → IsV B' w cs t) fun k b i s l ks ih cs h => ?_
  unfold IsV at h ⊢
  obtain ⟨la, lc, ka, kc, h1, h2, h3, h4, h5, h6, h7, h8, h9⟩ := h
  refine ⟨la, lc, ka, kc, h1, h2, h3, h4, h5, h6, h7, h8.mono hB, IsVs.mk fun j t ht => ?_⟩
  obtain ⟨b, off, cs', g1, g2, g3, g4⟩ := h9.get j t ht
  exact ⟨b, off, cs', g1, by omega, g3, ih j t ht cs' g4⟩

theorem bulkAll_sum {H : Type} (l : List (DataW H)) : Rows.uptoBulkAll l = (l.map Rows.uptoBulk).sum := by
  induction l with
  | nil => rfl
  | cons x l ih => simp [Rows.uptoBulkAll, ih]
theorem sum_le {α : Type} (f : α → Nat) (g : Nat → Nat) : ∀ (os : List α) (k : Nat), (∀ (i : Nat) o, os[i]? = some o → f o ≤ g (k + i)) → (os.map f).sum ≤ ((List.range' k os.length).map g).sum := by
  intro os
  induction os with
  | nil => intro k _; simp
  | cons o os ih =>
    intro k h
    have h0 := h 0 o rfl
    have := ih (k + 1) (fun i u hu => by have := h (i + 1) u (by simpa using hu); rwa [show k + 1 + i = k + (i + 1) from by omega])
    simp only [List.map_cons, List.sum_cons, List.length_cons, List.range'_succ]
    rw [Nat.add_zero] at h0
    omega
theorem sum_get {α : Type} (f : α → Nat) {l : List α} {i : Nat} {x : α} (h : l[i]? = some x) : f x ≤ (l.map f).sum := by
  induction l generalizing i with
  | nil => simp at h
  | cons u us ih =>
    cases i with
    | zero => simp at h; subst h; simp only [List.map_cons, List.sum_cons]; omega
    | succ i => have := ih (i := i) (by simpa using h); simp only [List.map_cons, List.sum_cons]; omega
/-- A slice that came in, read element by element, whatever an element's reading tells; the elements' bulks are less than the slice's. -/
theorem open_rowsP {H : Type} {enc : TypeId × Value → H} {P : Program} {w : World} {base : Nat} {spare : Nat → Bool} {held : Bool} {α : Type} (R : List Value → α → Prop) (wt : α → Nat) (size : Nat) {t e : TypeId} {fuel : Nat} {c : Value} {x : DataW H × List MemPlace}
    (ht : P.underlying t = some (.slice e)) (hC : P.cellsOf e = size) (hs0 : 0 < size)
    (hel : ∀ (n : Nat) (cs : List Value) (y : DataW H × List MemPlace), Rows.uptoBulk y.1 < Rows.uptoBulk x.1 → cs.length = size → DataW.trod enc P w base spare held n e cs = some y → ∃ o : α, R cs o ∧ wt o ≤ Rows.uptoBulk y.1)
    (h : DataW.trod enc P w base spare held fuel t [c] = some x) :
    ∃ (a : Option Addr) (cap : Nat) (os : List α), c = .slice a os.length cap ∧ (os.length ≤ cap ∧ cap ≤ 9223372036854775807) ∧ (a = none → cap = 0) ∧ (os.map wt).sum + 1 ≤ Rows.uptoBulk x.1 ∧
      ∀ (i : Nat) (o : α), os[i]? = some o → ∃ b off cs, a = some ⟨b, off, none⟩ ∧ b < w.heap.size ∧ cs.length = size ∧ (∀ j v, cs[j]? = some v → w.cell? ⟨b, off + (i * size + j), none⟩ = some v) ∧ R cs o := by
  rcases open_slice ht h with ⟨h0, hx⟩ | ⟨b, l, cp, m, n, D, Pl, hcs, hb, hl, hm, hmm, hx, hi⟩
  · injection h0 with h0
    subst h0 hx
    exact ⟨none, 0, [], rfl, ⟨Nat.le_refl _, by omega⟩, fun _ => rfl, by simp [Rows.uptoBulk], fun i o h => by simp at h⟩
  · injection hcs with h0
    subst h0
    have hlm : l ≤ m := by subst hmm; split <;> omega
    have hxb : Rows.uptoBulk x.1 = Rows.uptoBulkAll ((List.range l).map D) + Rows.uptoBulkAll ((List.range (m - l)).map fun j => D (l + j)) + 1 := by rw [hx]; rfl
    have hD : ∀ i, i < l → Rows.uptoBulk (D i) < Rows.uptoBulk x.1 := fun i hil => by
      have := sum_get Rows.uptoBulk (l := (List.range l).map D) (i := i) (x := D i) (by simp [hil])
      rw [← bulkAll_sum] at this
      omega
    have hex : ∀ i, i < l → ∃ o : α, (∃ cs, cs.length = size ∧ (∀ j v, cs[j]? = some v → w.cell? (b.add (i * size + j)) = some v) ∧ R cs o) ∧ wt o ≤ Rows.uptoBulk (D i) := by
      intro i hil
      obtain ⟨cs', hc, ht'⟩ := hi i (by omega)
      rw [hC] at hc
      obtain ⟨_, hcl, hat⟩ := World.cells?_some hc
      obtain ⟨o, hR, hle⟩ := hel n cs' _ (hD i hil) hcl ht'
      refine ⟨o, ⟨cs', hcl, fun j v hj => ?_, hR⟩, hle⟩
      have hjl : j < size := by rw [← hcl]; exact (List.getElem?_eq_some_iff.1 hj).1
      rw [← Go.Deep.add_add, hat j hjl, hj]
    obtain ⟨os, h1, h2⟩ := choose_list hex
    have hsum : (os.map wt).sum ≤ Rows.uptoBulkAll ((List.range l).map D) := by
      have := sum_le wt (fun i => Rows.uptoBulk (D i)) os 0 (fun i o ho => by rw [Nat.zero_add]; exact (h2 i o ho).2)
      rw [bulkAll_sum, List.map_map, List.range_eq_range', ← h1]; exact this
    subst h1
    refine ⟨some b, cp, os, rfl, ⟨hl, hm⟩, (fun h => by cases h), by omega, fun i o ho => ?_⟩
    obtain ⟨⟨cs, g1, g2, g3⟩, _⟩ := h2 i o ho
    obtain ⟨v0, hv0⟩ : ∃ v, cs[0]? = some v := ⟨cs[0], List.getElem?_eq_getElem (by omega)⟩
    have hsp : b = ⟨b.block, b.off, none⟩ := by
      have hi0 : 0 < os.length := by have := (List.getElem?_eq_some_iff.1 ho).1; omega
      obtain ⟨⟨cs', k1, k2, _⟩, _⟩ := h2 0 os[0] (List.getElem?_eq_getElem hi0)
      have h1 := k2 0 cs'[0] (List.getElem?_eq_getElem (by omega))
      have h2 : b.add (0 * size + 0) = b := by rw [Nat.zero_mul]; rfl
      rw [h2] at h1
      exact spot_none h1
    refine ⟨b.block, b.off, cs, by rw [← hsp], ?_, g1, fun j v hv => ?_, g3⟩
    · have := World.block_lt_of_cell? w _ (g2 0 v0 hv0)
      rw [hsp, addr_add] at this
      exact this
    · have := g2 j v hv
      rw [hsp, addr_add] at this
      exact this
/-- A slice of texts. -/
theorem open_strs {H : Type} {enc : TypeId × Value → H} {w : World} {base : Nat} {spare : Nat → Bool} {held : Bool} {fuel : Nat} {c : Value} {x : DataW H × List MemPlace}
    (h : DataW.trod enc Try.prog w base spare held fuel 22 [c] = some x) :
    ∃ (a : Option Addr) (cap : Nat) (ks : List ByteArray), c = .slice a ks.length cap ∧ (ks.length ≤ cap ∧ cap ≤ 9223372036854775807) ∧ (a = none → cap = 0) ∧ (ks.map fun k => k.size + 1).sum + 1 ≤ Rows.uptoBulk x.1 ∧ StrRow w.heap.size w a ks := by
  obtain ⟨a, cap, ks, h1, h2, h3, h4, h5⟩ := open_rowsP (fun cs (k : ByteArray) => cs = [.string k]) (fun k => k.size + 1) 1 Try.underlying22 (by kernel_rfl) (by omega) (fun n cs y _ hcl hy => by
    obtain ⟨s, rfl, hy1, _⟩ := DataW.trod_string Try.underlying9 hy
    refine ⟨s, rfl, ?_⟩
    rw [hy1]
    simp [Rows.uptoBulk]) h
  refine ⟨a, cap, ks, h1, h2, h3, h4, ?_⟩
  by_cases hk : ks = []
  · subst hk; exact .inl rfl
  obtain ⟨k0, hk0⟩ : ∃ k, ks[0]? = some k := by
    cases ks with
    | nil => exact absurd rfl hk
    | cons k _ => exact ⟨k, rfl⟩
  obtain ⟨b, off, _, hab, hbl, _⟩ := h5 0 k0 hk0
  refine .inr ⟨b, off, hab, hbl, fun i v hv => ?_⟩
  rw [List.getElem?_map] at hv
  cases hki : ks[i]? with
  | none => rw [hki] at hv; cases hv
  | some k =>
    rw [hki] at hv
    cases hv
    obtain ⟨b', off', cs, hab', _, _, hc, rfl⟩ := h5 i k hki
    rw [hab] at hab'
    cases hab'
    have := hc 0 _ rfl
    rwa [Nat.mul_one, Nat.add_zero] at this
/-- One field's reading. -/
theorem field_trod {H : Type} {enc : TypeId × Value → H} {P : Program} {w : World} {base : Nat} {spare : Nat → Bool} {held : Bool} {fs : Array Field} {m : Nat} {cs : List Value} {xs : List (DataW H × List MemPlace)}
    (hl : xs.length = fs.size) (hf : ∀ (i : Nat) (f : Field), fs[i]? = some f → DataW.trod enc P w base spare held m f.type ((cs.drop f.offset).take (P.cellsOf f.type)) = xs[i]?)
    (i : Nat) (f : Field) (hi : fs[i]? = some f) (hc : P.cellsOf f.type = 1) (c : Value) (hcs : cs[f.offset]? = some c) : ∃ y, xs[i]? = some y ∧ DataW.trod enc P w base spare held m f.type [c] = some y := by
  have h1 := hf i f hi
  have h2 := (Array.getElem?_eq_some_iff.1 hi).1
  obtain ⟨h3, h4⟩ := List.getElem?_eq_some_iff.1 hcs
  rw [hc, List.drop_eq_getElem_cons h3, h4] at h1
  exact ⟨_, List.getElem?_eq_getElem (by omega), h1.trans (List.getElem?_eq_getElem (by omega))⟩
theorem in64_of_wf {n : Int} (h : (Lit.int .i64 n).wf = true) : in64 n := by
  simp only [Lit.wf, Bool.and_eq_true, decide_eq_true_eq] at h
  have h1 : IntKind.i64.min = -9223372036854775808 := by decide
  have h2 : IntKind.i64.max = 9223372036854775807 := by decide
  rw [h1, h2] at h
  exact h
set_option maxRecDepth 100000 in
/-- A value that came in is a tree. -/
theorem open_value {H : Type} {enc : TypeId × Value → H} {w : World} {base : Nat} {spare : Nat → Bool} {held : Bool} : ∀ (k : Nat) (fuel : Nat) (cs : List Value) (x : DataW H × List MemPlace), Rows.uptoBulk x.1 ≤ k →
    DataW.trod enc Try.prog w base spare held fuel 26 cs = some x → ∃ t : Vt, IsV w.heap.size w cs t ∧ wtV t ≤ Rows.uptoBulk x.1 := by
  intro k
  induction k with
  | zero =>
    intro fuel cs x hk h
    obtain ⟨xs, n, _, hx, _⟩ := DataW.trod_struct Try.underlying26 h
    rw [hx] at hk
    simp [Rows.uptoBulk] at hk
  | succ k ih =>
    intro fuel cs x hk h
    obtain ⟨xs, n, _, hx, hcl, hxl, hf⟩ := DataW.trod_struct Try.underlying26 h
    have hcl6 : cs.length = 6 := hcl.trans (by kernel_rfl)
    obtain ⟨c0, c1, c2, c3, c4, c5, rfl⟩ : ∃ c0 c1 c2 c3 c4 c5, cs = [c0, c1, c2, c3, c4, c5] := by
      match cs, hcl6 with
      | [c0, c1, c2, c3, c4, c5], _ => exact ⟨c0, c1, c2, c3, c4, c5, rfl⟩
    obtain ⟨y0, e0, t0⟩ := field_trod hxl hf 0 _ rfl (by kernel_rfl) c0 rfl
    obtain ⟨y1, e1, t1⟩ := field_trod hxl hf 1 _ rfl (by kernel_rfl) c1 rfl
    obtain ⟨y2, e2, t2⟩ := field_trod hxl hf 2 _ rfl (by kernel_rfl) c2 rfl
    obtain ⟨y3, e3, t3⟩ := field_trod hxl hf 3 _ rfl (by kernel_rfl) c3 rfl
    obtain ⟨y4, e4, t4⟩ := field_trod hxl hf 4 _ rfl (by kernel_rfl) c4 rfl
    obtain ⟨y5, e5, t5⟩ := field_trod hxl hf 5 _ rfl (by kernel_rfl) c5 rfl
    have hxs : xs = [y0, y1, y2, y3, y4, y5] := by
      apply List.ext_getElem?
      intro i
      by_cases hi : i < 6
      · have : i = 0 ∨ i = 1 ∨ i = 2 ∨ i = 3 ∨ i = 4 ∨ i = 5 := by omega
        rcases this with rfl | rfl | rfl | rfl | rfl | rfl
        · exact e0
        · exact e1
        · exact e2
        · exact e3
        · exact e4
        · exact e5
      · rw [List.getElem?_eq_none (by rw [hxl]; show 6 ≤ i; omega), List.getElem?_eq_none (by show 6 ≤ i; omega)]
    obtain ⟨n0, g0, -, w0⟩ := DataW.trod_int Try.underlying3 t0
    obtain ⟨b1, g1, -⟩ := DataW.trod_bool Try.underlying4 t1
    obtain ⟨n2, g2, -, w2⟩ := DataW.trod_int Try.underlying2 t2
    obtain ⟨s3, g3, z3, -⟩ := DataW.trod_string Try.underlying9 t3
    have hbx : Rows.uptoBulk x.1 = Rows.uptoBulk y0.1 + (Rows.uptoBulk y1.1 + (Rows.uptoBulk y2.1 + (Rows.uptoBulk y3.1 + (Rows.uptoBulk y4.1 + Rows.uptoBulk y5.1)))) + 1 := by
      rw [hx, hxs]; simp [Rows.uptoBulk, Rows.uptoBulkAll]
    obtain ⟨la, lc, os, g4, l4, z4, s4, r4⟩ := open_rowsP (IsV w.heap.size w) wtV 6 Try.underlying23 (by kernel_rfl) (by omega) (fun n cs y hy _ hh => ih n cs y (by omega) hh) t4
    obtain ⟨ka, kc, ks, g5, l5, z5, s5, r5⟩ := open_strs t5
    injection g0 with g0
    injection g1 with g1
    injection g2 with g2
    injection g3 with g3
    subst g0 g1 g2 g3 g4 g5
    refine ⟨.mk n0 b1 n2 s3 os ks, ?_, ?_⟩
    · unfold IsV
      refine ⟨la, lc, ka, kc, rfl, in64_of_wf w0, in64_of_wf w2, l4, l5, z4, z5, r5, IsVs.mk fun i t ht => ?_⟩
      obtain ⟨b, off, cs, q1, q2, _, q4, q5⟩ := r4 i t ht
      exact ⟨b, off, cs, q1, q2, by rwa [Nat.zero_add], q5⟩
    · have h3 : Rows.uptoBulk y3.1 = s3.size + 1 := by rw [z3]; simp [Rows.uptoBulk]
      simp only [wtV]
      rw [wtVs_sum]
      omega
end Go.Proofs.Ytdkgjbjlpofieaa

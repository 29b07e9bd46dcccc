/- What the laws' frames ask: the world's shape, a string's bulk, what is read as expressions and statements. Conditions: each says its own. -/
import Derived.JoinedCond
import Derived.HandedShaped
import Derived.Shelf.Vars
import Derived.Test.YtndhpdclpgemfaaGreatProg
import Derived.Deep.AppendLies
import Derived.Test.YtndhpdclpgemfaaGreatY8
import Derived.Test.YtndhpdclpgemfaaGreatY1
import Derived.Deep.Slices
import Derived.ChangeArms
import Derived.Test.YtndhpdclpgemfaaGreatBulk
import Derived.Test.YtndhpdclpgemfaaGreatRows
import Derived.Test.YtndhpdclpgemfaaGreatY5
import Derived.Test.YtndhpdclpgemfaaGreatY4
import Derived.Test.YtndhpdclpgemfaaGreatY6
namespace Go.Proofs.YtndhpdclpgemfaaGreat
open Go.ChangeShapes
variable {H : Type} {enc : TypeId × Value → H}
theorem returnsInHanded_of_cond_shaped {a : Assume} {C : Checked} {os : Os} {f : FuncId} {fn : Func} {s : OpenSpec} {k : (H : Type) → List (DataW H) → Bool} (hk : s.cond = some k) {F : Stop.Interp} {conds : List PathCond} {apart fresh handsOn again : Bool}
    (own : ownKnob C.prog.godebug = none) (started : os.Started) (noInit : C.prog.inits.idxOf? f = none) (hfn : C.prog.funcs[f]? = some fn)
    (witness : ∃ (w : World) (tape : Tape) (i : Input), w.os = os ∧ (w.forCall tape i).Shaped C.prog ∧ i.vars = [] ∧ Input.okWide C.prog (w.forCall tape i) .any w.heap.size f i ∧
      s.pre6 enc C.prog fn conds apart (w.forCall tape i).memory i.args ∧ a.holds C.prog (lone (Frame.enter C.prog f i.args .normal) [] (w.forCall tape i)))
    (contract : ∀ (W : World) (base : Nat) (args : Array Value) (ds gs : List (DataW H)) (before : List MemPlace),
      (∀ (j : Nat) t v, fn.params[j]? = some t → args[j]? = some v → Value.okWide C.prog W .any base t v) →
      DataW.Whole enc C.prog fn.params.toList s.vars apart W args.toList ds gs before →
      conds.all (PathCond.test C.prog ⟨fn.params.toList, ds, s.bare.plain.varTypes C.prog, gs⟩) = true → k H (ds ++ gs) = true →
      W.ShapedOpen C.prog →
      a.holds C.prog (lone (Frame.enter C.prog f args .normal) [] W) →
      Calls C.prog f args W fun e W' => ∃ v, e = .returned v ∧ (s.at F).post enc C.prog fn apart fresh handsOn again W args v W') :
    ReturnsInHanded a C os f .any (s.pre6 enc C.prog fn conds apart) ((s.at F).post enc C.prog fn apart fresh handsOn again) := by
  refine returnsInHanded_of_calls own started noInit witness ?_
  intro w tape i _ hsh _ hok hpre hholds
  obtain ⟨_, _, _, fn', hfn', _, _, _, _, hval⟩ := hok
  have e : fn' = fn := Option.some.inj (hfn'.symm.trans hfn)
  subst e
  obtain ⟨ds, gs, before, hw, hc, hkk⟩ := (OpenSpec.pre_some hk conds apart _ _).1 hpre.1
  have hw' := DataW.Whole.of_heap (w' := w.forCall tape i) (by rfl) hw
  refine (contract (w.forCall tape i) w.heap.size i.args ds gs before hval hw' hc hkk hsh hholds).mono fun e W' ⟨v, he, hp⟩ => ?_
  subst he
  exact ChangeSpec.post_blind hp
end Go.Proofs.YtndhpdclpgemfaaGreat
namespace Go.Proofs.YtndhpdclpgemfaaGreat
theorem str_bulk {H : Type} {s : ByteArray} (h : Rows.uptoBulk (H := H) (.lit (.string s.data.toList)) ≤ 1048576) : s.size ≤ 1073741824 := by
 have hl : s.data.toList.length = s.size := by simp
 have : Rows.uptoBulk (H := H) (.lit (.string s.data.toList)) = s.data.toList.length + 1 := rfl
 omega
end Go.Proofs.YtndhpdclpgemfaaGreat
namespace Go.Proofs.YtndhpdclpgemfaaGreat
open Go.RowKit Go.Deep Go.ChangeShapes Go.WideShapes
theorem spot_none {w : World} {a : Addr} {v : Value} (h : w.cell? a = some v) : a = ⟨a.block, a.off, none⟩ := by
  have := World.cell?_spot h
  cases a; simp_all
theorem choose_list {α : Type} {p : Nat → α → Prop} {n : Nat} (h : ∀ i, i < n → ∃ o, p i o) : ∃ os : List α, os.length = n ∧ ∀ (i : Nat) o, os[i]? = some o → p i o := by
  induction n with
  | zero => exact ⟨[], rfl, by simp⟩
  | succ n ih =>
    obtain ⟨os, h1, h2⟩ := ih (fun i hi => h i (by omega))
    obtain ⟨o, ho⟩ := h n (by omega)
    refine ⟨os ++ [o], by simp [h1], fun i u hu => ?_⟩
    by_cases hin : i < os.length
    · rw [List.getElem?_append_left hin] at hu; exact h2 i u hu
    · rw [List.getElem?_append_right (by omega)] at hu
      have : i = n := by
        have := (List.getElem?_eq_some_iff.1 hu).1
        simp at this; omega
      subst this
      rw [show i - os.length = 0 from by omega] at hu
      simp at hu; subst hu; exact ho
end Go.Proofs.YtndhpdclpgemfaaGreat
namespace Go.Proofs.YtndhpdclpgemfaaGreat
open Go.RowKit Go.Deep Go.ChangeShapes Go.WideShapes
set_option linter.unusedVariables false
theorem bulkAll_sum {H : Type} (l : List (DataW H)) : Rows.uptoBulkAll l = (l.map Rows.uptoBulk).sum := by
  induction l with
  | nil => rfl
  | cons x l ih => simp [Rows.uptoBulkAll, ih]
theorem sum_le {α : Type} (f : α → Nat) (g : Nat → Nat) : ∀ (os : List α) (k : Nat), (∀ (i : Nat) o, os[i]? = some o → f o ≤ g (k + i)) → (os.map f).sum ≤ ((List.range' k os.length).map g).sum := by
  intro os
  induction os with
  | nil => intro k _; simp
  | cons o os ih =>
    intro k h
    have h0 := h 0 o rfl
    have := ih (k + 1) (fun i u hu => by have := h (i + 1) u (by simpa using hu); rwa [show k + 1 + i = k + (i + 1) from by omega])
    simp only [List.map_cons, List.sum_cons, List.length_cons, List.range'_succ]
    rw [Nat.add_zero] at h0
    omega
/-- A slice that came in, read element by element, whatever an element's reading tells; the elements' bulks are less than the slice's. -/
theorem open_rowsP {H : Type} {enc : TypeId × Value → H} {P : Program} {w : World} {base : Nat} {spare : Nat → Bool} {held : Bool} {α : Type} (R : List Value → α → Prop) (wt : α → Nat) (size : Nat) {t e : TypeId} {fuel : Nat} {c : Value} {x : DataW H × List MemPlace}
    (ht : P.underlying t = some (.slice e)) (hC : P.cellsOf e = size) (hs0 : 0 < size)
    (hel : ∀ (n : Nat) (cs : List Value) (y : DataW H × List MemPlace), Rows.uptoBulk y.1 < Rows.uptoBulk x.1 → cs.length = size → DataW.trod enc P w base spare held n e cs = some y → ∃ o : α, R cs o ∧ wt o ≤ Rows.uptoBulk y.1)
    (h : DataW.trod enc P w base spare held fuel t [c] = some x) :
    ∃ (a : Option Addr) (cap : Nat) (os : List α), c = .slice a os.length cap ∧ (os.length ≤ cap ∧ cap ≤ 9223372036854775807) ∧ (a = none → cap = 0) ∧ (os.map wt).sum + 1 ≤ Rows.uptoBulk x.1 ∧
      ∀ (i : Nat) (o : α), os[i]? = some o → ∃ b off cs, a = some ⟨b, off, none⟩ ∧ b < w.heap.size ∧ cs.length = size ∧ (∀ j v, cs[j]? = some v → w.cell? ⟨b, off + (i * size + j), none⟩ = some v) ∧ R cs o := by
  rcases open_slice ht h with ⟨h0, hx⟩ | ⟨b, l, cp, m, n, D, Pl, hcs, hb, hl, hm, hmm, hx, hi⟩
  · injection h0 with h0
    subst h0 hx
    exact ⟨none, 0, [], rfl, ⟨Nat.le_refl _, by omega⟩, fun _ => rfl, by simp [Rows.uptoBulk], fun i o h => by simp at h⟩
  · injection hcs with h0
    subst h0
    have hlm : l ≤ m := by subst hmm; split <;> omega
    have hxb : Rows.uptoBulk x.1 = Rows.uptoBulkAll ((List.range l).map D) + Rows.uptoBulkAll ((List.range (m - l)).map fun j => D (l + j)) + 1 := by rw [hx]; rfl
    have hD : ∀ i, i < l → Rows.uptoBulk (D i) < Rows.uptoBulk x.1 := fun i hil => by
      have := sum_get Rows.uptoBulk (l := (List.range l).map D) (i := i) (x := D i) (by simp [hil])
      rw [← bulkAll_sum] at this
      omega
    have hex : ∀ i, i < l → ∃ o : α, (∃ cs, cs.length = size ∧ (∀ j v, cs[j]? = some v → w.cell? (b.add (i * size + j)) = some v) ∧ R cs o) ∧ wt o ≤ Rows.uptoBulk (D i) := by
      intro i hil
      obtain ⟨cs', hc, ht'⟩ := hi i (by omega)
      rw [hC] at hc
      obtain ⟨_, hcl, hat⟩ := World.cells?_some hc
      obtain ⟨o, hR, hle⟩ := hel n cs' _ (hD i hil) hcl ht'
      refine ⟨o, ⟨cs', hcl, fun j v hj => ?_, hR⟩, hle⟩
      have hjl : j < size := by rw [← hcl]; exact (List.getElem?_eq_some_iff.1 hj).1
      rw [← Go.Deep.add_add, hat j hjl, hj]
    obtain ⟨os, h1, h2⟩ := choose_list hex
    have hsum : (os.map wt).sum ≤ Rows.uptoBulkAll ((List.range l).map D) := by
      have := sum_le wt (fun i => Rows.uptoBulk (D i)) os 0 (fun i o ho => by rw [Nat.zero_add]; exact (h2 i o ho).2)
      rw [bulkAll_sum, List.map_map, List.range_eq_range', ← h1]; exact this
    subst h1
    refine ⟨some b, cp, os, rfl, ⟨hl, hm⟩, (fun h => by cases h), by omega, fun i o ho => ?_⟩
    obtain ⟨⟨cs, g1, g2, g3⟩, _⟩ := h2 i o ho
    obtain ⟨v0, hv0⟩ : ∃ v, cs[0]? = some v := ⟨cs[0], List.getElem?_eq_getElem (by omega)⟩
    have hsp : b = ⟨b.block, b.off, none⟩ := by
      have hi0 : 0 < os.length := by have := (List.getElem?_eq_some_iff.1 ho).1; omega
      obtain ⟨⟨cs', k1, k2, _⟩, _⟩ := h2 0 os[0] (List.getElem?_eq_getElem hi0)
      have h1 := k2 0 cs'[0] (List.getElem?_eq_getElem (by omega))
      have h2 : b.add (0 * size + 0) = b := by rw [Nat.zero_mul]; rfl
      rw [h2] at h1
      exact spot_none h1
    refine ⟨b.block, b.off, cs, by rw [← hsp], ?_, g1, fun j v hv => ?_, g3⟩
    · have := World.block_lt_of_cell? w _ (g2 0 v0 hv0)
      rw [hsp, addr_add] at this
      exact this
    · have := g2 j v hv
      rw [hsp, addr_add] at this
      exact this
/-- A slice of texts. -/
theorem open_strs {H : Type} {enc : TypeId × Value → H} {w : World} {base : Nat} {spare : Nat → Bool} {held : Bool} {fuel : Nat} {c : Value} {x : DataW H × List MemPlace}
    (h : DataW.trod enc Tryz.prog w base spare held fuel 31 [c] = some x) :
    ∃ (a : Option Addr) (cap : Nat) (ks : List ByteArray), c = .slice a ks.length cap ∧ (ks.length ≤ cap ∧ cap ≤ 9223372036854775807) ∧ (a = none → cap = 0) ∧ (ks.map fun k => k.size + 1).sum + 1 ≤ Rows.uptoBulk x.1 ∧ StrRow w.heap.size w a ks := by
  obtain ⟨a, cap, ks, h1, h2, h3, h4, h5⟩ := open_rowsP (fun cs (k : ByteArray) => cs = [.string k]) (fun k => k.size + 1) 1 Tryz.underlying31 (by kernel_rfl) (by omega) (fun n cs y _ hcl hy => by
    obtain ⟨s, rfl, hy1, _⟩ := DataW.trod_string Tryz.underlying9 hy
    refine ⟨s, rfl, ?_⟩
    rw [hy1]
    simp [Rows.uptoBulk]) h
  refine ⟨a, cap, ks, h1, h2, h3, h4, ?_⟩
  by_cases hk : ks = []
  · subst hk; exact .inl rfl
  obtain ⟨k0, hk0⟩ : ∃ k, ks[0]? = some k := by
    cases ks with
    | nil => exact absurd rfl hk
    | cons k _ => exact ⟨k, rfl⟩
  obtain ⟨b, off, _, hab, hbl, _⟩ := h5 0 k0 hk0
  refine .inr ⟨b, off, hab, hbl, fun i v hv => ?_⟩
  rw [List.getElem?_map] at hv
  cases hki : ks[i]? with
  | none => rw [hki] at hv; cases hv
  | some k =>
    rw [hki] at hv
    cases hv
    obtain ⟨b', off', cs, hab', _, _, hc, rfl⟩ := h5 i k hki
    rw [hab] at hab'
    cases hab'
    have := hc 0 _ rfl
    rwa [Nat.mul_one, Nat.add_zero] at this
/-- One field's reading. -/
theorem field_trod {H : Type} {enc : TypeId × Value → H} {P : Program} {w : World} {base : Nat} {spare : Nat → Bool} {held : Bool} {fs : Array Field} {m : Nat} {cs : List Value} {xs : List (DataW H × List MemPlace)}
    (hl : xs.length = fs.size) (hf : ∀ (i : Nat) (f : Field), fs[i]? = some f → DataW.trod enc P w base spare held m f.type ((cs.drop f.offset).take (P.cellsOf f.type)) = xs[i]?)
    (i : Nat) (f : Field) (hi : fs[i]? = some f) (hc : P.cellsOf f.type = 1) (c : Value) (hcs : cs[f.offset]? = some c) : ∃ y, xs[i]? = some y ∧ DataW.trod enc P w base spare held m f.type [c] = some y := by
  have h1 := hf i f hi
  have h2 := (Array.getElem?_eq_some_iff.1 hi).1
  obtain ⟨h3, h4⟩ := List.getElem?_eq_some_iff.1 hcs
  rw [hc, List.drop_eq_getElem_cons h3, h4] at h1
  exact ⟨_, List.getElem?_eq_getElem (by omega), h1.trans (List.getElem?_eq_getElem (by omega))⟩
theorem in64_of_wf {n : Int} (h : (Lit.int .i64 n).wf = true) : in64 n := by
  simp only [Lit.wf, Bool.and_eq_true, decide_eq_true_eq] at h
  have h1 : IntKind.i64.min = -9223372036854775808 := by decide
  have h2 : IntKind.i64.max = 9223372036854775807 := by decide
  rw [h1, h2] at h
  exact h
set_option maxRecDepth 100000 in
/-- A value that came in is a tree. -/
theorem open_value {H : Type} {enc : TypeId × Value → H} {w : World} {base : Nat} {spare : Nat → Bool} {held : Bool} : ∀ (k : Nat) (fuel : Nat) (cs : List Value) (x : DataW H × List MemPlace), Rows.uptoBulk x.1 ≤ k →
    DataW.trod enc Tryz.prog w base spare held fuel 33 cs = some x → ∃ t : Vt, IsV w.heap.size w cs t ∧ wtV t ≤ Rows.uptoBulk x.1 := by
  intro k
  induction k with
  | zero =>
    intro fuel cs x hk h
    obtain ⟨xs, n, _, hx, _⟩ := DataW.trod_struct Tryz.underlying33 h
    rw [hx] at hk
    simp [Rows.uptoBulk] at hk
  | succ k ih =>
    intro fuel cs x hk h
    obtain ⟨xs, n, _, hx, hcl, hxl, hf⟩ := DataW.trod_struct Tryz.underlying33 h
    have hcl6 : cs.length = 6 := hcl.trans (by kernel_rfl)
    obtain ⟨c0, c1, c2, c3, c4, c5, rfl⟩ : ∃ c0 c1 c2 c3 c4 c5, cs = [c0, c1, c2, c3, c4, c5] := by
      match cs, hcl6 with
      | [c0, c1, c2, c3, c4, c5], _ => exact ⟨c0, c1, c2, c3, c4, c5, rfl⟩
    obtain ⟨y0, e0, t0⟩ := field_trod hxl hf 0 _ rfl (by kernel_rfl) c0 rfl
    obtain ⟨y1, e1, t1⟩ := field_trod hxl hf 1 _ rfl (by kernel_rfl) c1 rfl
    obtain ⟨y2, e2, t2⟩ := field_trod hxl hf 2 _ rfl (by kernel_rfl) c2 rfl
    obtain ⟨y3, e3, t3⟩ := field_trod hxl hf 3 _ rfl (by kernel_rfl) c3 rfl
    obtain ⟨y4, e4, t4⟩ := field_trod hxl hf 4 _ rfl (by kernel_rfl) c4 rfl
    obtain ⟨y5, e5, t5⟩ := field_trod hxl hf 5 _ rfl (by kernel_rfl) c5 rfl
    have hxs : xs = [y0, y1, y2, y3, y4, y5] := by
      apply List.ext_getElem?
      intro i
      by_cases hi : i < 6
      · have : i = 0 ∨ i = 1 ∨ i = 2 ∨ i = 3 ∨ i = 4 ∨ i = 5 := by omega
        rcases this with rfl | rfl | rfl | rfl | rfl | rfl
        · exact e0
        · exact e1
        · exact e2
        · exact e3
        · exact e4
        · exact e5
      · rw [List.getElem?_eq_none (by rw [hxl]; show 6 ≤ i; omega), List.getElem?_eq_none (by show 6 ≤ i; omega)]
    obtain ⟨n0, g0, -, w0⟩ := DataW.trod_int Tryz.underlying3 t0
    obtain ⟨b1, g1, -⟩ := DataW.trod_bool Tryz.underlying4 t1
    obtain ⟨n2, g2, -, w2⟩ := DataW.trod_int Tryz.underlying2 t2
    obtain ⟨s3, g3, z3, -⟩ := DataW.trod_string Tryz.underlying9 t3
    have hbx : Rows.uptoBulk x.1 = Rows.uptoBulk y0.1 + (Rows.uptoBulk y1.1 + (Rows.uptoBulk y2.1 + (Rows.uptoBulk y3.1 + (Rows.uptoBulk y4.1 + Rows.uptoBulk y5.1)))) + 1 := by
      rw [hx, hxs]; simp [Rows.uptoBulk, Rows.uptoBulkAll]
    obtain ⟨la, lc, os, g4, l4, z4, s4, r4⟩ := open_rowsP (IsV w.heap.size w) wtV 6 Tryz.underlying30 (by kernel_rfl) (by omega) (fun n cs y hy _ hh => ih n cs y (by omega) hh) t4
    obtain ⟨ka, kc, ks, g5, l5, z5, s5, r5⟩ := open_strs t5
    injection g0 with g0
    injection g1 with g1
    injection g2 with g2
    injection g3 with g3
    subst g0 g1 g2 g3 g4 g5
    refine ⟨.mk n0 b1 n2 s3 os ks, ?_, ?_⟩
    · unfold IsV
      refine ⟨la, lc, ka, kc, rfl, in64_of_wf w0, in64_of_wf w2, l4, l5, z4, z5, r5, IsVs.mk fun i t ht => ?_⟩
      obtain ⟨b, off, cs, q1, q2, _, q4, q5⟩ := r4 i t ht
      exact ⟨b, off, cs, q1, q2, by rwa [Nat.zero_add], q5⟩
    · have h3 : Rows.uptoBulk y3.1 = s3.size + 1 := by rw [z3]; simp [Rows.uptoBulk]
      simp only [wtV]
      rw [wtVs_sum]
      omega
end Go.Proofs.YtndhpdclpgemfaaGreat
namespace Go.Proofs.YtndhpdclpgemfaaGreat
open Go.RowKit Go.Deep Go.ChangeShapes Go.WideShapes
set_option linter.unusedVariables false
set_option linter.unusedSimpArgs false
set_option maxRecDepth 100000
theorem field_trodN {H : Type} {enc : TypeId × Value → H} {P : Program} {w : World} {base : Nat} {spare : Nat → Bool} {held : Bool} {fs : Array Field} {m : Nat} {cs : List Value} {xs : List (DataW H × List MemPlace)}
    (hl : xs.length = fs.size) (hf : ∀ (i : Nat) (f : Field), fs[i]? = some f → DataW.trod enc P w base spare held m f.type ((cs.drop f.offset).take (P.cellsOf f.type)) = xs[i]?)
    (i : Nat) (f : Field) (hi : fs[i]? = some f) {k : Nat} (hc : P.cellsOf f.type = k) : ∃ y, xs[i]? = some y ∧ DataW.trod enc P w base spare held m f.type ((cs.drop f.offset).take k) = some y := by
  have h1 := hf i f hi
  have h2 := (Array.getElem?_eq_some_iff.1 hi).1
  rw [hc] at h1
  exact ⟨_, List.getElem?_eq_getElem (by omega), h1.trans (List.getElem?_eq_getElem (by omega))⟩
theorem list10 {α : Type} {cs : List α} (h : cs.length = 10) : ∃ c0 c1 c2 c3 c4 c5 c6 c7 c8 c9, cs = [c0, c1, c2, c3, c4, c5, c6, c7, c8, c9] := by
  match cs, h with
  | [c0, c1, c2, c3, c4, c5, c6, c7, c8, c9], _ => exact ⟨c0, c1, c2, c3, c4, c5, c6, c7, c8, c9, rfl⟩
theorem list5 {α : Type} {cs : List α} (h : cs.length = 5) : ∃ c0 c1 c2 c3 c4, cs = [c0, c1, c2, c3, c4] := by
  match cs, h with
  | [c0, c1, c2, c3, c4], _ => exact ⟨c0, c1, c2, c3, c4, rfl⟩
set_option maxRecDepth 100000 in
/-- An expression that came in is a tree. -/
theorem open_expr {H : Type} {enc : TypeId × Value → H} {w : World} {base : Nat} {spare : Nat → Bool} {held : Bool} : ∀ (k : Nat) (fuel : Nat) (cs : List Value) (x : DataW H × List MemPlace), Rows.uptoBulk x.1 ≤ k →
    DataW.trod enc Tryz.prog w base spare held fuel 36 cs = some x → ∃ t : Ex, IsX w.heap.size w cs t ∧ wtX t ≤ Rows.uptoBulk x.1 ∧ cs.length = 10 := by
  intro k
  induction k with
  | zero =>
    intro fuel cs x hk h
    obtain ⟨xs, n, _, hx, _⟩ := DataW.trod_struct Tryz.underlying36 h
    rw [hx] at hk
    simp [Rows.uptoBulk] at hk
  | succ k ih =>
    intro fuel cs x hk h
    obtain ⟨xs, n, _, hx, hcl, hxl, hf⟩ := DataW.trod_struct Tryz.underlying36 h
    have hcl10 : cs.length = 10 := hcl.trans (by kernel_rfl)
    obtain ⟨c0, c1, c2, c3, c4, c5, c6, c7, c8, c9, rfl⟩ := list10 hcl10
    obtain ⟨y0, e0, t0⟩ := field_trod hxl hf 0 _ rfl (by kernel_rfl) c0 rfl
    obtain ⟨y1, e1, t1⟩ := field_trod hxl hf 1 _ rfl (by kernel_rfl) c1 rfl
    obtain ⟨y2, e2, t2⟩ := field_trodN hxl hf 2 _ rfl (k := 6) (by kernel_rfl)
    obtain ⟨y3, e3, t3⟩ := field_trod hxl hf 3 _ rfl (by kernel_rfl) c8 rfl
    obtain ⟨y4, e4, t4⟩ := field_trod hxl hf 4 _ rfl (by kernel_rfl) c9 rfl
    obtain ⟨z0, z1, z2, z3, z4, rfl⟩ := list5 (show xs.length = 5 from hxl)
    simp at e0 e1 e2 e3 e4
    subst e0 e1 e2 e3 e4
    obtain ⟨n0, g0, -, w0⟩ := DataW.trod_int Tryz.underlying3 t0
    obtain ⟨s1, g1, p1, -⟩ := DataW.trod_string Tryz.underlying9 t1
    obtain ⟨tv, hv, hwv⟩ := open_value _ _ _ _ (Nat.le_refl _) t2
    obtain ⟨na, nc, ns, g3, l3, q3, s3, r3⟩ := open_strs t3
    have hbx : Rows.uptoBulk x.1 = Rows.uptoBulk z0.1 + (Rows.uptoBulk z1.1 + (Rows.uptoBulk z2.1 + (Rows.uptoBulk z3.1 + Rows.uptoBulk z4.1))) + 1 := by
      rw [hx]; simp [Rows.uptoBulk, Rows.uptoBulkAll]
    obtain ⟨xa, xc, os, g4, l4, q4, s4, r4⟩ := open_rowsP (IsX w.heap.size w) wtX 10 Tryz.underlying34 (by kernel_rfl) (by omega) (fun n cs y hy _ hh => by
      obtain ⟨t, h1, h2, _⟩ := ih n cs y (by omega) hh
      exact ⟨t, h1, h2⟩) t4
    injection g0 with g0
    injection g1 with g1
    subst g0 g1 g3 g4
    refine ⟨.mk n0 s1 tv ns os, ?_, ?_, rfl⟩
    · unfold IsX
      exact ⟨_, na, nc, xa, xc, rfl, in64_of_wf w0, hv, ⟨l3, q3⟩, ⟨l4, q4⟩, r3, isXs_iff.2 r4⟩
    · have h1 : Rows.uptoBulk z1.1 = s1.size + 1 := by rw [p1]; simp [Rows.uptoBulk]
      simp only [wtX, wtS]
      rw [wtXs_sum]
      omega
end Go.Proofs.YtndhpdclpgemfaaGreat

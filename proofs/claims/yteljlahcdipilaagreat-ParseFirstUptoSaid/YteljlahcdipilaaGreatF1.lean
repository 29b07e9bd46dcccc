/- Parts Base, Tree, MayP, Shelf, May, May2 of this seat (pruned, scripts that are alike kept once as default arguments: q1, q2, ..). Conditions: each says its own. -/
import Derived.Laws.AppendOwnNone
import Derived.Lib.Hide
import Derived.OpenShut
import Derived.ProofKit
import Derived.WalkLawsBesides
import Derived.WalkSpells
import Derived.Deep.Slices
import Derived.Test.YteljlahcdipilaaGreatBulk
import Derived.Shelf.Small.Strs
import Derived.Shelf.Strings.BuilderRune
import Derived.Shelf.Strings.OnBuilder
import Derived.Shelf.Strings.Prefix
import Derived.BigQuiet
namespace Go.Proofs.YteljlahcdipilaaGreat
open Go.RowKit
theorem below_step {B : Nat} {a b c : World} (h : Below B a b) (hB : B = a.heap.size) (k : Below b.heap.size b c) : Below B a c := h.trans (k.mono (by rw [hB]; exact h.size))
theorem Calls.below {P : Program} {f : FuncId} {args : Array Value} {w W : World} {v : Value} (h : Calls P f args w fun e w' => e = .returned v ∧ Below w.heap.size w w') (hb : Below W.heap.size W w) :
    Calls P f args w fun e w' => e = .returned v ∧ Below W.heap.size W w' := h.mono fun _ _ ⟨he, hk⟩ => ⟨he, below_step hb rfl hk⟩
theorem addr_add (b off i : Nat) : (⟨b, off, none⟩ : Addr).add i = ⟨b, off + i, none⟩ := by
 by_cases h : i = 0 <;> simp [Addr.add, h]
def Cells (B : Nat) (w : World) (a : Option Addr) (vs : List Value) : Prop :=
  vs = [] ∨ ∃ b off, a = some ⟨b, off, none⟩ ∧ b < B ∧ ∀ (i : Nat) v, vs[i]? = some v → w.cell? ⟨b, off + i, none⟩ = some v
theorem Cells.nil {B : Nat} {w : World} {a : Option Addr} : Cells B w a [] := .inl rfl
theorem Cells.below {B B' : Nat} {w w' : World} {a : Option Addr} {vs : List Value} (h : Cells B w a vs) (hb : Below B' w w') (hB : B ≤ B') : Cells B w' a vs := by
 rcases h with h | ⟨b, off, h1, h2, h3⟩
 ·exact .inl h
 ·exact .inr ⟨b, off, h1, h2, fun i v hi => by rw [hb.cell (by show b < B'; omega)]; exact h3 i v hi⟩
theorem Cells.mono {B B' : Nat} {w : World} {a : Option Addr} {vs : List Value} (h : Cells B w a vs) (hB : B ≤ B') : Cells B' w a vs := by
 rcases h with h | ⟨b, off, h1, h2, h3⟩
 ·exact .inl h
 ·exact .inr ⟨b, off, h1, by omega, h3⟩
def Block (w : World) (b : Nat) (cur : List Value) (t : TypeId) : Prop := w.heap[b]? = some (.cells cur.toArray t (0, 0))
theorem Block.lt {w : World} {b : Nat} {cur : List Value} {t : TypeId} (h : Block w b cur t) : b < w.heap.size := (Array.getElem?_eq_some_iff.1 h).1
theorem Block.cell {w : World} {b : Nat} {cur : List Value} {t : TypeId} (h : Block w b cur t) {i : Nat} {v : Value} (hi : cur[i]? = some v) : w.cell? ⟨b, i, none⟩ = some v := by
 unfold Block at h; simp [World.cell?, h, hi]
theorem Block.free {w : World} {b : Nat} {cur : List Value} {t : TypeId} (h : Block w b cur t) (i : Nat) : w.frozen? ⟨b, i, none⟩ = false := by
 unfold Block at h; simp [World.frozen?, h]
theorem Block.set {w : World} {b : Nat} {cur : List Value} {t : TypeId} (h : Block w b cur t) (i : Nat) (v : Value) : Block (w.setCell ⟨b, i, none⟩ v) b (cur.set i v) t := by
 have hlt := h.lt
 unfold Block at *
 have h' : w.heap[b] = .cells cur.toArray t (0, 0) := by simpa [Array.getElem?_eq_getElem hlt] using h
 show (w.heap.modify b _)[b]? = _
 rw [Array.getElem?_eq_getElem (by simpa using hlt), Array.getElem_modify_self, h']
 simp
theorem Block.of_heap {w w' : World} {b : Nat} {cur : List Value} {t : TypeId} (h : Block w b cur t) (hh : w'.heap[b]? = w.heap[b]?) : Block w' b cur t := hh.trans h
theorem Block.below {B : Nat} {w w' : World} {b : Nat} {cur : List Value} {t : TypeId} (h : Block w b cur t) (hb : Below B w w') (hB : b < B) : Block w' b cur t := h.of_heap (hb.block b hB)
theorem Block.set_other {w : World} {b : Nat} {cur : List Value} {t : TypeId} (h : Block w b cur t) {a : Addr} (ha : b ≠ a.block) (v : Value) : Block (w.setCell a v) b cur t := h.of_heap (Below.heap_setCell _ _ _ _ ha)
theorem Block.alloc {w : World} {b : Nat} {cur : List Value} {t : TypeId} (h : Block w b cur t) (o : Obj) : Block (w.alloc o) b cur t := h.of_heap (Below.heap_alloc _ _ _ h.lt)
theorem Block.new (w : World) (cur : List Value) (t : TypeId) : Block (w.alloc (.cells cur.toArray t)) w.heap.size cur t := by
 show (w.heap.push _)[w.heap.size]? = _
 simp
theorem Block.drew {w : World} {b : Nat} {cur : List Value} {t : TypeId} (h : Block w b cur t) : Block w.drew b cur t := h
structure Kept (own : List Nat) (w w' : World) : Prop where
  os : w'.os = w.os
  tape : w'.tape = w.tape
  output : w'.output = w.output
  size : w.heap.size ≤ w'.heap.size
  block : ∀ k, k < w.heap.size → k ∉ own → w'.heap[k]? = w.heap[k]?
theorem Kept.refl (own : List Nat) (w : World) : Kept own w w := ⟨rfl, rfl, rfl, Nat.le_refl _, fun _ _ _ => rfl⟩
theorem Kept.trans {own own' : List Nat} {a b c : World} (h : Kept own a b) (k : Kept own' b c) (hs : ∀ x ∈ own', x ∈ own ∨ a.heap.size ≤ x) : Kept own a c :=
  ⟨k.os.trans h.os, k.tape.trans h.tape, k.output.trans h.output, Nat.le_trans h.size k.size, fun x hx hn => by
    rw [k.block x (Nat.lt_of_lt_of_le hx h.size) (fun hm => by rcases hs x hm with h1 | h1; exact hn h1; omega), h.block x hx hn]⟩
theorem Kept.below {own : List Nat} {B : Nat} {w w' : World} (h : Kept own w w') (hB : ∀ x ∈ own, B ≤ x) (hs : B ≤ w.heap.size) : Below B w w' :=
  ⟨h.os, h.tape, h.output, h.size, fun k hk => h.block k (by omega) (fun hm => by have := hB k hm; omega)⟩
theorem Kept.of_below {own : List Nat} {w w' : World} (h : Below w.heap.size w w') : Kept own w w' := ⟨h.os, h.tape, h.output, h.size, fun k hk _ => h.block k hk⟩
theorem Kept.setCell {own : List Nat} {a w : World} (h : Kept own a w) {p : Addr} (hp : p.block ∈ own ∨ a.heap.size ≤ p.block) (v : Value) : Kept own a (w.setCell p v) :=
  ⟨h.os, h.tape, h.output, by simpa [World.setCell] using h.size, fun k hk hn => by
    rw [Below.heap_setCell _ _ _ _ (fun e => by subst e; rcases hp with hp | hp; exact hn hp; omega), h.block k hk hn]⟩
theorem Kept.alloc {own : List Nat} {a w : World} (h : Kept own a w) (o : Obj) : Kept own a (w.alloc o) :=
  ⟨h.os, h.tape, h.output, by have := h.size; simp; omega, fun k hk hn => by rw [Below.heap_alloc _ _ _ (Nat.lt_of_lt_of_le hk h.size), h.block k hk hn]⟩
theorem Kept.drew {own : List Nat} {a w : World} (h : Kept own a w) : Kept own a w.drew := ⟨h.os, h.tape, h.output, h.size, h.block⟩
theorem Kept.drewN {own : List Nat} {a w : World} (h : Kept own a w) (n : Nat) : Kept own a (w.drewN n) := ⟨h.os, h.tape, h.output, h.size, h.block⟩
theorem Kept.grown {own : List Nat} {a w w' : World} {row : Option Nat} (h : Kept own a w) (hg : w.grownBy w' row) (hr : ∀ k, row = some k → k ∈ own ∨ a.heap.size ≤ k) : Kept own a w' :=
  ⟨hg.os.trans h.os, hg.tape.trans h.tape, hg.output.trans h.output, Nat.le_trans h.size hg.size, fun k hk hn => by
    rw [hg.block k (Nat.lt_of_lt_of_le hk h.size) (fun e => by rcases hr k e.symm with h1 | h1; exact hn h1; omega), h.block k hk hn]⟩
theorem take_succ_some {α : Type} {l : List α} {k : Nat} {x : α} (h : l[k]? = some x) : l.take (k + 1) = l.take k ++ [x] := by
 rw [List.take_add_one, h]; rfl
def IsRow (k : IntKind) (w : World) (a : Option Addr) (len cap : Nat) (zs : List Int) : Prop :=
  (a = none ∧ len = 0 ∧ cap = 0 ∧ zs = []) ∨
  ∃ x, a = some x ∧ len ≤ cap ∧ cap ≤ maxLen ∧ zs.length = cap ∧ (∀ i, i < zs.length → w.cell? (x.add i) = some (.int k (zs.getD i 0))) ∧ ∀ n ∈ zs, (Lit.int k n).wf = true
theorem IsRow.cells {k : IntKind} {w : World} {a : Option Addr} {len cap : Nat} {zs : List Int} (h : IsRow k w a len cap zs) :
    ∃ ys : List Int, ys = zs.take len ∧ ys.length = len ∧ len ≤ maxLen ∧ Cells w.heap.size w a (ys.map (.int k)) := by
 rcases h with ⟨rfl, rfl, rfl, rfl⟩ | ⟨x, rfl, hl, hm, hz, hc, _⟩
 ·exact ⟨[], rfl, rfl, Nat.zero_le _, .inl rfl⟩
 ·refine ⟨_, rfl, by simp; omega, by omega, ?_⟩
  by_cases h0 : len = 0
  ·subst h0; exact .inl (by simp)
  ·obtain ⟨b, off, spot⟩ := x
   have h1 := hc 0 (by omega)
   have hspot : spot = none := by simpa [Addr.add] using World.cell?_spot h1
   subst hspot
   refine .inr ⟨b, off, rfl, by simpa [Addr.add] using World.block_lt_of_cell? w _ h1, fun i v hi => ?_⟩
   rw [List.getElem?_map] at hi
   obtain ⟨n, hn, rfl⟩ := Option.map_eq_some_iff.1 hi
   have hi2 : i < zs.length := by
    have := (List.getElem?_eq_some_iff.1 hn).1; simp at this; omega
   have hn' : zs[i]? = some n := by rw [List.getElem?_take] at hn; split at hn <;> simp_all
   have h2 := hc i hi2
   rw [List.getD_eq_getElem?_getD, hn', addr_add] at h2
   exact h2
universe u
theorem ng (a b : Int) (h : ¬ a = b := by decide) : ¬ a = b := h
theorem nf (a b : Int) (h : (a = b) = False := by decide) : (a = b) = False := h
theorem nam {α : Sort u} (x : α) : ∃ y, x = y := ⟨x, rfl⟩
theorem hd3 {A0 A1 A2 : Prop} (a0 : A0) (a1 : A1) (a2 : A2) : Hid A0 ∧ Hid A1 ∧ Hid A2 := ⟨Lib.hid a0, Lib.hid a1, Lib.hid a2⟩
theorem hd4 {A0 A1 A2 A3 : Prop} (a0 : A0) (a1 : A1) (a2 : A2) (a3 : A3) : Hid A0 ∧ Hid A1 ∧ Hid A2 ∧ Hid A3 := ⟨Lib.hid a0, Lib.hid a1, Lib.hid a2, Lib.hid a3⟩
theorem hd5 {A0 A1 A2 A3 A4 : Prop} (a0 : A0) (a1 : A1) (a2 : A2) (a3 : A3) (a4 : A4) : Hid A0 ∧ Hid A1 ∧ Hid A2 ∧ Hid A3 ∧ Hid A4 := ⟨Lib.hid a0, Lib.hid a1, Lib.hid a2, Lib.hid a3, Lib.hid a4⟩
theorem hd7 {A0 A1 A2 A3 A4 A5 A6 : Prop} (a0 : A0) (a1 : A1) (a2 : A2) (a3 : A3) (a4 : A4) (a5 : A5) (a6 : A6) : Hid A0 ∧ Hid A1 ∧ Hid A2 ∧ Hid A3 ∧ Hid A4 ∧ Hid A5 ∧ Hid A6 := ⟨Lib.hid a0, Lib.hid a1, Lib.hid a2, Lib.hid a3, Lib.hid a4, Lib.hid a5, Lib.hid a6⟩
end Go.Proofs.YteljlahcdipilaaGreat
namespace Go.Proofs.YteljlahcdipilaaGreat
open Go.RowKit Go.Deep Go.ChangeShapes Go.WideShapes
set_option linter.unusedVariables false
inductive Vt where
  | mk (kind : Int) (bool : Bool) (int : Int) (str : ByteArray) (list : List Vt) (keys : List ByteArray)
def in64 (n : Int) : Prop := -9223372036854775808 ≤ n ∧ n ≤ 9223372036854775807
def StrRow (B : Nat) (w : World) (a : Option Addr) (ks : List ByteArray) : Prop := Cells B w a (ks.map Value.string)
mutual
def IsV (B : Nat) (w : World) : List Value → Vt → Prop
  | cs, .mk k b i s l ks => ∃ la lc ka kc, cs = [.int .i64 k, .bool b, .int .i64 i, .string s, .slice la l.length lc, .slice ka ks.length kc] ∧ in64 k ∧ in64 i ∧ (l.length ≤ lc ∧ lc ≤ 9223372036854775807) ∧ (ks.length ≤ kc ∧ kc ≤ 9223372036854775807) ∧
      (la = none → lc = 0) ∧ (ka = none → kc = 0) ∧ StrRow B w ka ks ∧ IsVs B w la 0 l
def IsVs (B : Nat) (w : World) : Option Addr → Nat → List Vt → Prop
  | _, _, [] => True
  | a, n, t :: ts => (∃ b off cs, a = some ⟨b, off, none⟩ ∧ b < B ∧ (∀ j v, cs[j]? = some v → w.cell? ⟨b, off + (n * 6 + j), none⟩ = some v) ∧ IsV B w cs t) ∧ IsVs B w a (n + 1) ts
end
mutual
def wtV : Vt → Nat
  | .mk _ _ _ s l ks => 1 + s.size + (ks.map fun k => k.size + 1).sum + wtVs l
def wtVs : List Vt → Nat
  | [] => 0
  | t :: ts => wtV t + wtVs ts
end
theorem wtVs_get {l : List Vt} {i : Nat} {t : Vt} (h : l[i]? = some t) : wtV t ≤ wtVs l := by
 induction l generalizing i with
 | nil => simp at h
 | cons u us ih =>
  cases i with
  | zero => simp at h; subst h; simp only [wtVs]; omega
  | succ i => have := ih (i := i) (by simpa using h); simp only [wtVs]; omega
theorem Vt.down {p : Vt → Prop} (h : ∀ k b i s l ks, (∀ (j : Nat) t, l[j]? = some t → p t) → p (.mk k b i s l ks)) (t : Vt) : p t := by
 induction hn : wtV t using Nat.strongRecOn generalizing t with
 | _ n ih =>
  obtain ⟨k, b, i, s, l, ks⟩ := t
  refine h k b i s l ks fun j t ht => ih (wtV t) ?_ t rfl
  have := wtVs_get ht
  rw [← hn]
  simp only [wtV]
  omega
theorem IsVs.get {B : Nat} {w : World} {a : Option Addr} {l : List Vt} : ∀ {n : Nat}, IsVs B w a n l → ∀ (i : Nat) (t : Vt), l[i]? = some t →
    ∃ b off cs, a = some ⟨b, off, none⟩ ∧ b < B ∧ (∀ j v, cs[j]? = some v → w.cell? ⟨b, off + ((n + i) * 6 + j), none⟩ = some v) ∧ IsV B w cs t := by
 induction l with
 | nil => intro n _ i t h; simp at h
 | cons u us ih =>
  intro n h i t ht
  unfold IsVs at h
  cases i with
  | zero => simp at ht; subst ht; exact h.1
  | succ i =>
   have := ih h.2 i t (by simpa using ht)
   rwa [show n + 1 + i = n + (i + 1) from by omega] at this
theorem IsVs.mk {B : Nat} {w : World} {a : Option Addr} {l : List Vt} : ∀ {n : Nat}, (∀ (i : Nat) (t : Vt), l[i]? = some t →
    ∃ b off cs, a = some ⟨b, off, none⟩ ∧ b < B ∧ (∀ j v, cs[j]? = some v → w.cell? ⟨b, off + ((n + i) * 6 + j), none⟩ = some v) ∧ IsV B w cs t) → IsVs B w a n l := by
 induction l with
 | nil => intro n _; simp [IsVs]
 | cons u us ih =>
  intro n h
  unfold IsVs
  exact ⟨h 0 u rfl, ih fun i t ht => by
   have := h (i + 1) t (by simpa using ht)
   rwa [show n + (i + 1) = n + 1 + i from by omega] at this⟩
theorem IsV.below {B B' : Nat} {w w' : World} (hb : Below B' w w') (hB : B ≤ B') (t : Vt) : ∀ cs, IsV B w cs t → IsV B w' cs t := by
 refine t.down (p := fun t => ∀ cs, IsV B w cs t → IsV B w' cs t) fun k b i s l ks ih cs h => ?_
 unfold IsV at h ⊢
 obtain ⟨la, lc, ka, kc, h1, h2, h3, h4, h5, h6, h7, h8, h9⟩ := h
 refine ⟨la, lc, ka, kc, h1, h2, h3, h4, h5, h6, h7, h8.below hb hB, IsVs.mk fun j t ht => ?_⟩
 obtain ⟨b, off, cs', g1, g2, g3, g4⟩ := h9.get j t ht
 exact ⟨b, off, cs', g1, g2, fun q v hv => by rw [hb.cell (by show b < B'; omega)]; exact g3 q v hv, ih j t ht cs' g4⟩
theorem IsV.mono {B B' : Nat} {w : World} (hB : B ≤ B') (t : Vt) : ∀ cs, IsV B w cs t → IsV B' w cs t := by
 refine t.down (p := fun t => ∀ cs, IsV B w cs t → IsV B' w cs t) fun k b i s l ks ih cs h => ?_
 unfold IsV at h ⊢
 obtain ⟨la, lc, ka, kc, h1, h2, h3, h4, h5, h6, h7, h8, h9⟩ := h
 refine ⟨la, lc, ka, kc, h1, h2, h3, h4, h5, h6, h7, h8.mono hB, IsVs.mk fun j t ht => ?_⟩
 obtain ⟨b, off, cs', g1, g2, g3, g4⟩ := h9.get j t ht
 exact ⟨b, off, cs', g1, by omega, g3, ih j t ht cs' g4⟩
theorem sum_get {α : Type} (f : α → Nat) {l : List α} {i : Nat} {x : α} (h : l[i]? = some x) : f x ≤ (l.map f).sum := by
 induction l generalizing i with
 | nil => simp at h
 | cons u us ih =>
  cases i with
  | zero => simp at h; subst h; simp only [List.map_cons, List.sum_cons]; omega
  | succ i => have := ih (i := i) (by simpa using h); simp only [List.map_cons, List.sum_cons]; omega
end Go.Proofs.YteljlahcdipilaaGreat
namespace Go.Proofs.YteljlahcdipilaaGreat
open Go.RowKit
set_option linter.unusedVariables false
def strLe (x y : ByteArray) : Bool := Op.bytesLess x.toList y.toList || x.toList == y.toList
def kOk (ks : List ByteArray) (i : Nat) : Bool := match ks[i]? with
  | none => true
  | some x => decide (1 ≤ x.size ∧ x.size ≤ 64) && (match ks[i - 1]? with | none => true | some y => decide (i = 0) || !strLe x y)
def keysOk (ks : List ByteArray) : Bool := decide (∀ i, i < ks.length → kOk ks i = true)
def unusedV (k : Int) (b : Bool) (i : Int) (s : ByteArray) (n m : Nat) : Bool :=
  decide ((k = 1 ∨ b = false) ∧ (k = 2 ∨ k = 6 ∨ k = 7 ∨ i = 0) ∧ (k = 3 ∨ s.size = 0) ∧ (k = 4 ∨ k = 5 ∨ n = 0) ∧ (k = 5 ∨ m = 0))
def headOk (k : Int) (b : Bool) (i : Int) (s : ByteArray) (n : Nat) (ks : List ByteArray) (deep : Int) (parts : Nat) : Bool :=
  decide (parts + 1 ≤ 4096 ∧ 1 ≤ deep ∧ 0 ≤ k ∧ k ≤ 7 ∧ unusedV k b i s n ks.length = true ∧ ¬ ((k = 6 ∨ k = 7) ∧ i < 1) ∧ (k = 5 → ks.length = n ∧ keysOk ks = true))
mutual
def mayV : Vt → Int → Nat → Nat × Bool
  | .mk k b i s l ks, deep, parts => if headOk k b i s l.length ks deep parts then mayVs l (deep - 1) (parts + 1) else (parts + 1, false)
def mayVs : List Vt → Int → Nat → Nat × Bool
  | [], _, parts => (parts, true)
  | t :: ts, deep, parts => match mayV t deep parts with | (n, false) => (n, false) | (n, true) => mayVs ts deep n
end
def mayB (t : Vt) : Bool := (mayV t 32 0).2
theorem mayVs_le (d : Int) (l : List Vt) (h : ∀ (j : Nat) t, l[j]? = some t → ∀ d p, p ≤ 4096 → (mayV t d p).1 ≤ 4097 ∧ ((mayV t d p).2 = true → (mayV t d p).1 ≤ 4096)) :
    ∀ p, p ≤ 4096 → (mayVs l d p).1 ≤ 4097 ∧ ((mayVs l d p).2 = true → (mayVs l d p).1 ≤ 4096) := by
 induction l with
 | nil => intro p hp; simp only [mayVs]; exact ⟨by omega, fun _ => hp⟩
 | cons t ts ih =>
  intro p hp
  have h0 := h 0 t rfl d p hp
  simp only [mayVs]
  cases hm : mayV t d p with
  | mk n ok =>
   rw [hm] at h0
   cases ok with
   | false => exact ⟨h0.1, fun h => by cases h⟩
   | true => exact ih (fun j t ht => h (j + 1) t (by simpa using ht)) n (h0.2 rfl)
theorem mayV_le (t : Vt) : ∀ d p, p ≤ 4096 → (mayV t d p).1 ≤ 4097 ∧ ((mayV t d p).2 = true → (mayV t d p).1 ≤ 4096) := by
 refine t.down (p := fun t => ∀ d p, p ≤ 4096 → (mayV t d p).1 ≤ 4097 ∧ ((mayV t d p).2 = true → (mayV t d p).1 ≤ 4096)) fun k b i s l ks ih d p hp => ?_
 unfold mayV
 cases hh : headOk k b i s l.length ks d p with
 | false => simp; omega
 | true =>
  have : p + 1 ≤ 4096 := by have := of_decide_eq_true hh; exact this.1
  exact mayVs_le (d - 1) l ih (p + 1) this
theorem mayVs_step {l : List Vt} {i : Nat} {t : Vt} (h : l[i]? = some t) (d : Int) (p : Nat) : mayVs (l.drop i) d p = match mayV t d p with | (n, false) => (n, false) | (n, true) => mayVs (l.drop (i + 1)) d n := by
 obtain ⟨h1, h2⟩ := List.getElem?_eq_some_iff.1 h
 rw [List.drop_eq_getElem_cons h1, h2, mayVs]
theorem mayV_parts {t : Vt} {d : Int} {p : Nat} (h : (mayV t d p).2 = true) : ∃ k b i s l ks, t = .mk k b i s l ks ∧ headOk k b i s l.length ks d p = true ∧ ∀ (j : Nat) u, l[j]? = some u → ∃ q, (mayV u (d - 1) q).2 = true := by
 obtain ⟨k, b, i, s, l, ks⟩ := t
 refine ⟨k, b, i, s, l, ks, rfl, ?_⟩
 unfold mayV at h
 cases hh : headOk k b i s l.length ks d p with
 | false => rw [hh] at h; cases h
 | true =>
  rw [hh, if_pos rfl] at h
  refine ⟨rfl, ?_⟩
  clear hh
  generalize p + 1 = q at h
  induction l generalizing q with
  | nil => intro j u hu; simp at hu
  | cons t ts ih =>
   intro j u hu
   simp only [mayVs] at h
   cases hm : mayV t (d - 1) q with
   | mk n ok =>
    rw [hm] at h
    cases ok with
    | false => cases h
    | true =>
     cases j with
     | zero => simp at hu; subst hu; exact ⟨q, by rw [hm]⟩
     | succ j => exact ih n h j u (by simpa using hu)
end Go.Proofs.YteljlahcdipilaaGreat
namespace Go.Proofs.YteljlahcdipilaaGreat
open Go.Shelf Go.Proofs Go.RowKit
def shRen : Go.Shelf.Ren := ⟨fun | 99 => 75 | 137 => 106 | 143 => 76 | 144 => 43 | 156 => 179 | 165 => 182 | 166 => 36 | 167 => 34 | 168 => 164 | 169 => 38 | 206 => 93 | 217 => 107 | 219 => 94 | 224 => 109 | 225 => 108 | 240 => 55 | 241 => 185 | 242 => 170 | 266 => 126 | 267 => 110 | 276 => 90 | 277 => 186 | 278 => 176 | 314 => 127 | n => n, fun | 0 => 0 | 3 => 3 | 4 => 4 | 5 => 5 | 9 => 9 | 20 => 20 | 21 => 21 | 31 => 62 | 37 => 75 | 46 => 160 | 51 => 180 | 70 => 92 | 72 => 94 | 75 => 96 | 76 => 106 | 80 => 109 | 127 => 148 | 146 => 181 | 164 => 156 | n => n, fun | n => n⟩
theorem shLays99 : Go.Proofs.Lays.n99 Tryz.prog shRen := {
  mixed := by kernel_rfl
  f99 := Tryz.func75.trans (congrArg some (by kernel_rfl))
  f206 := Tryz.func93.trans (congrArg some (by kernel_rfl))
  t3 := Tryz.underlying3
  a3 := Tryz.isAgg3
  z3 := Tryz.sizeOf3
  v3 := Tryz.zeroValue3
  t4 := Tryz.underlying4
  a4 := Tryz.isAgg4
  z4 := Tryz.sizeOf4
  v4 := Tryz.zeroValue4
  t9 := Tryz.underlying9
  a9 := Tryz.isAgg9
  z9 := Tryz.sizeOf9
  v9 := Tryz.zeroValue9
}
theorem shLays137 : Go.Proofs.Lays.n137 Tryz.prog shRen := {
  mixed := by kernel_rfl
  f137 := Tryz.func106.trans (congrArg some (by kernel_rfl))
  f217 := Tryz.func107.trans (congrArg some (by kernel_rfl))
  f266 := Tryz.func126.trans (congrArg some (by kernel_rfl))
  t3 := Tryz.underlying3
  a3 := Tryz.isAgg3
  z3 := Tryz.sizeOf3
  v3 := Tryz.zeroValue3
  t5 := Tryz.underlying5
  a5 := Tryz.isAgg5
  z5 := Tryz.sizeOf5
  v5 := Tryz.zeroValue5
  t9 := Tryz.underlying9
  a9 := Tryz.isAgg9
  z9 := Tryz.sizeOf9
  v9 := Tryz.zeroValue9
}
end Go.Proofs.YteljlahcdipilaaGreat
namespace Go.Proofs.YteljlahcdipilaaGreat
open Go.RowKit
set_option linter.unusedSimpArgs false
set_option linter.unusedVariables false
theorem below_draws {B : Nat} {a w : World} (h : Below B a w) (n : Nat) : Below B a (w.drewN n) := by
 induction n with
 | zero => exact h
 | succ n ih => exact ih.drew
theorem ba_list (s : ByteArray) : s.toList = s.data.toList := by
 have h0 : ∀ l : List UInt8, (ByteArray.mk l.toArray).toList = l := fun l => by simp
 have h := h0 s.data.toList
 rwa [show (⟨s.data.toList.toArray⟩ : ByteArray) = s from by apply ByteArray.ext; simp] at h
theorem str_empty {s : ByteArray} (h : s.size = 0) : s.toList = [] ∧ s.toList.isEmpty = true := by
 have h1 : s.toList = [] := by rw [ba_list]; exact List.length_eq_zero_iff.1 (by simpa using h)
 exact ⟨h1, by rw [h1]; rfl⟩
theorem str_full {s : ByteArray} (h : ¬ s.size = 0) : ¬ s.toList = [] ∧ s.toList.isEmpty = false := by
 have h1 : ¬ s.toList = [] := fun hh => h (by rw [ba_list] at hh; have := congrArg List.length hh; simpa using this)
 exact ⟨h1, by rw [List.isEmpty_eq_false_iff]; exact h1⟩
theorem get_some {α : Type} {l : List α} {j : Nat} (h : j < l.length) : ∃ x, l[j]? = some x := ⟨l[j], List.getElem?_eq_getElem h⟩
theorem kOk_yes {ks : List ByteArray} {i : Nat} {x : ByteArray} (h : ks[i]? = some x) (h1 : 1 ≤ x.size) (h2 : x.size ≤ 64) (h3 : i = 0 ∨ ∃ y, ks[i - 1]? = some y ∧ strLe x y = false) : kOk ks i = true := by
 unfold kOk
 rw [h]
 dsimp only
 rw [decide_eq_true ⟨h1, h2⟩, Bool.true_and]
 rcases h3 with rfl | ⟨y, hy, hl⟩
 ·cases ks[0 - 1]? <;> simp
 ·rw [hy]
  dsimp only
  rw [hl]; simp
theorem kOk_no1 {ks : List ByteArray} {i : Nat} {x : ByteArray} (h : ks[i]? = some x) (h1 : ¬ (1 ≤ x.size ∧ x.size ≤ 64)) : kOk ks i = false := by
 unfold kOk
 rw [h]
 dsimp only
 rw [decide_eq_false h1, Bool.false_and]
theorem kOk_no2 {ks : List ByteArray} {i : Nat} {x y : ByteArray} (h : ks[i]? = some x) (hi : 0 < i) (hy : ks[i - 1]? = some y) (hl : strLe x y = true) : kOk ks i = false := by
 unfold kOk
 rw [h]
 dsimp only
 rw [hy]
 dsimp only
 rw [hl, decide_eq_false (show ¬ i = 0 from by omega)]
 simp
theorem keysOk_no {ks : List ByteArray} {i : Nat} (hi : i < ks.length) (h : kOk ks i = false) : keysOk ks = false := decide_eq_false (fun hh => by rw [hh i hi] at h; cases h)
theorem keysOk_yes {ks : List ByteArray} (h : ∀ i, i < ks.length → kOk ks i = true) : keysOk ks = true := decide_eq_true h
theorem headOk_parts {k : Int} {b : Bool} {i : Int} {s : ByteArray} {n : Nat} {ks : List ByteArray} {deep : Int} {parts : Nat} (h1 : parts + 1 ≤ 4096) (h2 : 1 ≤ deep) (h3 : 0 ≤ k) (h4 : k ≤ 7) (h5 : unusedV k b i s n ks.length = true) (h6 : ¬ ((k = 6 ∨ k = 7) ∧ i < 1)) (h7 : k = 5 → ks.length = n ∧ keysOk ks = true) : headOk k b i s n ks deep parts = true :=
  decide_eq_true ⟨h1, h2, h3, h4, h5, h6, h7⟩
theorem headOk_no {k : Int} {b : Bool} {i : Int} {s : ByteArray} {n : Nat} {ks : List ByteArray} {deep : Int} {parts : Nat} (h : ¬ (parts + 1 ≤ 4096 ∧ 1 ≤ deep ∧ 0 ≤ k ∧ k ≤ 7 ∧ unusedV k b i s n ks.length = true ∧ ¬ ((k = 6 ∨ k = 7) ∧ i < 1) ∧ (k = 5 → ks.length = n ∧ keysOk ks = true))) : headOk k b i s n ks deep parts = false := decide_eq_false h
def mayR (p : Nat × Bool) : Value := .tuple #[.int .i64 p.1, .bool p.2]
theorem mayV_no {k : Int} {b : Bool} {i : Int} {s : ByteArray} {l : List Vt} {ks : List ByteArray} {d : Int} {p : Nat} (h : headOk k b i s l.length ks d p = false) : mayR (mayV (.mk k b i s l ks) d p) = .tuple #[.int .i64 ((p : Int) + 1), .bool false] := by
 unfold mayV; rw [h]; rfl
theorem mayV_go {k : Int} {b : Bool} {i : Int} {s : ByteArray} {l : List Vt} {ks : List ByteArray} {d : Int} {p : Nat} (h : headOk k b i s l.length ks d p = true) : mayV (.mk k b i s l ks) d p = mayVs l (d - 1) (p + 1) := by
 unfold mayV; rw [h]; rfl
end Go.Proofs.YteljlahcdipilaaGreat

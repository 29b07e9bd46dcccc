/- The texts Base, Row, Arr, Ins, Del, Ext, Str, J, Node of this seat, one behind the other. Conditions: each says its own. -/
import Derived.WalkKit
import Derived.ProofKit
import Derived.OpenShut
import Derived.WalkLawsBesides
import Derived.WalkSpells
import Derived.WalkSmall
import Derived.Lib.Hide
import Derived.Laws.AppendOwnNone
import Derived.Deep.AppendLies
import Derived.Deep.RegionLaw
import Derived.Outline
import Derived.ArgAppend
import Derived.Deep.Upon
import Derived.Lib.Overlaps
import Derived.Lib.AppendZerosOnto
import Derived.Lib.SliceRun
import Derived.Lib.JoinLaws
import Derived.Laws.Externs
import Derived.Laws.IdiomCopy
import Derived.Laws.NewBlocks
import Derived.Laws.OwnMore
import Derived.Test.YtjoopjmcnkiieaaProg
import Derived.Lib.SlicesDelete
import Derived.BigQuiet
import Derived.Sort.Statements
import Derived.Deep.RegionHeld3

/- Small lemmas on worlds, rows of cells and lists, used by the walks of this seat. Conditions: none. -/
namespace Go.Proofs.Ytjoopjmcnkiieaa
open Go.RowKit

theorem below_step {B : Nat} {a b c : World} (h : Below B a b) (hB : B = a.heap.size) (k : Below b.heap.size b c) : Below B a c := h.trans (k.mono (by rw [hB]; exact h.size))

theorem Calls.below {P : Program} {f : FuncId} {args : Array Value} {w W : World} {v : Value} (h : Calls P f args w fun e w' => e = .returned v ∧ Below w.heap.size w w') (hb : Below W.heap.size W w) :
    Calls P f args w fun e w' => e = .returned v ∧ Below W.heap.size W w' := h.mono fun _ _ ⟨he, hk⟩ => ⟨he, below_step hb rfl hk⟩

theorem addr_add (b off i : Nat) : (⟨b, off, none⟩ : Addr).add i = ⟨b, off + i, none⟩ := by
  by_cases h : i = 0 <;> simp [Addr.add, h]

/-- The cells from an address on hold these values; the block lies below B. -/
def Cells (B : Nat) (w : World) (a : Option Addr) (vs : List Value) : Prop :=
  vs = [] ∨ ∃ b off, a = some ⟨b, off, none⟩ ∧ b < B ∧ ∀ (i : Nat) v, vs[i]? = some v → w.cell? ⟨b, off + i, none⟩ = some v

theorem Cells.nil {B : Nat} {w : World} {a : Option Addr} : Cells B w a [] := .inl rfl

theorem Cells.below {B B' : Nat} {w w' : World} {a : Option Addr} {vs : List Value} (h : Cells B w a vs) (hb : Below B' w w') (hB : B ≤ B') : Cells B w' a vs := by
  rcases h with h | ⟨b, off, h1, h2, h3⟩
  · exact .inl h
  · exact .inr ⟨b, off, h1, h2, fun i v hi => by rw [hb.cell (by show b < B'; omega)]; exact h3 i v hi⟩

theorem Cells.mono {B B' : Nat} {w : World} {a : Option Addr} {vs : List Value} (h : Cells B w a vs) (hB : B ≤ B') : Cells B' w a vs := by
  rcases h with h | ⟨b, off, h1, h2, h3⟩
  · exact .inl h
  · exact .inr ⟨b, off, h1, by omega, h3⟩

/-- A row of one-cell values that the call owns reads as cells. -/
theorem Cells.of_own {base : Nat} {w : World} {e : TypeId} {v : Value} {n : Nat} {xs : List Value} (h : w.ownsRow base e 1 v n xs) :
    ∃ a cap, v = .slice a n cap ∧ Cells w.heap.size w a xs := by
  obtain ⟨hl, h1⟩ := h
  rcases h1 with ⟨rfl, rfl⟩ | ⟨g, cap, cur, rfl, hg, hh, hn, hm, hs, ht⟩
  · exact ⟨none, 0, rfl, .inl (by simpa using hl)⟩
  · refine ⟨_, _, rfl, .inr ⟨g, 0, rfl, ?_, fun i v hi => ?_⟩⟩
    · exact (Array.getElem?_eq_some_iff.1 hh).1
    · have := World.ownsRow.cells (w := w) (base := base) (e := e) (size := 1) (v := .slice (some ⟨g, 0, none⟩) n cap) ⟨hl, .inr ⟨g, cap, cur, rfl, hg, hh, hn, hm, hs, ht⟩⟩ (g := g) rfl i v hi
      simpa [addr_add] using this

/-- append of a row of one-cell values, wherever it lies, to a row that the call owns. -/
theorem append_cells {P : Program} {w : World} {ops : Array Oper} {rest : List Oper} {o : Oper} {a : Act} {Q : Exit → Act → World → Prop} (hgd : o.guard = none) (s x : Operand) (t : TypeId)
    (ho : o.op = .call { callee := .builtin .append, args := #[s, x], argTypes := #[t, t] })
    (base : Nat) (e : TypeId) (i : TypeInfo) (z : Value) (bytes : Nat) (ht : P.underlying t = some (.slice e)) (hi : P.info? e = some i) (hz : i.zero = some z)
    (hsize : i.size = 1) (hby : i.bytes = bytes) (hzs : z.cells.size = 1)
    (v : Value) (n : Nat) (xs : List Value) (hs : a.eval s = v) (hown : w.ownsRow base e 1 v n xs)
    (ad : Option Addr) (m c B : Nat) (news : List Value) (hx : a.eval x = .slice ad m c) (hnone : ad = none → c = 0) (hl : news.length = m) (hc : Cells B w ad news) (h1 : ∀ u ∈ news, u.oneCell' = true)
    (h63 : n + m ≤ maxLen) (hbytes : (n + m) * bytes ≤ 140737488355328) (hbase : base ≤ w.heap.size)
    (h : ∀ v' w', w'.ownsRow base e 1 v' (n + m) (xs ++ news) → w.grownBy w' v.ownBlock → wpList P ops Q rest (a.put o.dst v') w') : wpList P ops Q (o :: rest) a w := by
  cases ad with
  | none =>
    have hn : news = [] := by
      rcases hc with h | ⟨b, off, h, _⟩
      · exact h
      · cases h
    subst hn
    obtain rfl : m = 0 := by simpa using hl.symm
    obtain rfl := hnone rfl
    exact wpList_append_own_none hgd s x t ho base e i 1 ht hi v n xs hs hown hx (h v w (by simpa using hown) ⟨rfl, rfl, rfl, Nat.le_refl _, fun _ _ _ => rfl⟩)
  | some ad =>
    refine wpList_append_own _ hgd s x t ho base e i z 1 bytes ht hi hz hsize hby hzs (by decide) v n xs hs hown ad m c news hx (by omega) (fun j u hj => ?_) h1 h63 hbytes hbase (fun v' w' h2 h3 _ => h v' w' h2 h3)
    rcases hc with h | ⟨b, off, h, _, hc⟩
    · subst h; simp at hj
    · cases h; rw [addr_add]; exact hc j u hj

/-- A block that may be written, all of whose cells are known. -/
def Block (w : World) (b : Nat) (cur : List Value) (t : TypeId) : Prop := w.heap[b]? = some (.cells cur.toArray t (0, 0))
theorem Block.lt {w : World} {b : Nat} {cur : List Value} {t : TypeId} (h : Block w b cur t) : b < w.heap.size := (Array.getElem?_eq_some_iff.1 h).1
theorem Block.cell {w : World} {b : Nat} {cur : List Value} {t : TypeId} (h : Block w b cur t) {i : Nat} {v : Value} (hi : cur[i]? = some v) : w.cell? ⟨b, i, none⟩ = some v := by
  unfold Block at h; simp [World.cell?, h, hi]
theorem Block.free {w : World} {b : Nat} {cur : List Value} {t : TypeId} (h : Block w b cur t) (i : Nat) : w.frozen? ⟨b, i, none⟩ = false := by
  unfold Block at h; simp [World.frozen?, h]
theorem Block.set {w : World} {b : Nat} {cur : List Value} {t : TypeId} (h : Block w b cur t) (i : Nat) (v : Value) : Block (w.setCell ⟨b, i, none⟩ v) b (cur.set i v) t := by
  have hlt := h.lt
  unfold Block at *
  have h' : w.heap[b] = .cells cur.toArray t (0, 0) := by simpa [Array.getElem?_eq_getElem hlt] using h
  show (w.heap.modify b _)[b]? = _
  rw [Array.getElem?_eq_getElem (by simpa using hlt), Array.getElem_modify_self, h']
  simp
theorem Block.of_heap {w w' : World} {b : Nat} {cur : List Value} {t : TypeId} (h : Block w b cur t) (hh : w'.heap[b]? = w.heap[b]?) : Block w' b cur t := hh.trans h
theorem Block.below {B : Nat} {w w' : World} {b : Nat} {cur : List Value} {t : TypeId} (h : Block w b cur t) (hb : Below B w w') (hB : b < B) : Block w' b cur t := h.of_heap (hb.block b hB)
theorem Block.set_other {w : World} {b : Nat} {cur : List Value} {t : TypeId} (h : Block w b cur t) {a : Addr} (ha : b ≠ a.block) (v : Value) : Block (w.setCell a v) b cur t := h.of_heap (Below.heap_setCell _ _ _ _ ha)
theorem Block.alloc {w : World} {b : Nat} {cur : List Value} {t : TypeId} (h : Block w b cur t) (o : Obj) : Block (w.alloc o) b cur t := h.of_heap (Below.heap_alloc _ _ _ h.lt)
theorem Block.new (w : World) (cur : List Value) (t : TypeId) : Block (w.alloc (.cells cur.toArray t)) w.heap.size cur t := by
  show (w.heap.push _)[w.heap.size]? = _
  simp
theorem Block.drew {w : World} {b : Nat} {cur : List Value} {t : TypeId} (h : Block w b cur t) : Block w.drew b cur t := h

/-- Of what was there in w nothing has turned but the blocks of own. -/
structure Kept (own : List Nat) (w w' : World) : Prop where
  os : w'.os = w.os
  tape : w'.tape = w.tape
  output : w'.output = w.output
  size : w.heap.size ≤ w'.heap.size
  block : ∀ k, k < w.heap.size → k ∉ own → w'.heap[k]? = w.heap[k]?
theorem Kept.refl (own : List Nat) (w : World) : Kept own w w := ⟨rfl, rfl, rfl, Nat.le_refl _, fun _ _ _ => rfl⟩
theorem Kept.trans {own own' : List Nat} {a b c : World} (h : Kept own a b) (k : Kept own' b c) (hs : ∀ x ∈ own', x ∈ own ∨ a.heap.size ≤ x) : Kept own a c :=
  ⟨k.os.trans h.os, k.tape.trans h.tape, k.output.trans h.output, Nat.le_trans h.size k.size, fun x hx hn => by
    rw [k.block x (Nat.lt_of_lt_of_le hx h.size) (fun hm => by rcases hs x hm with h1 | h1; exact hn h1; omega), h.block x hx hn]⟩
theorem Kept.below {own : List Nat} {B : Nat} {w w' : World} (h : Kept own w w') (hB : ∀ x ∈ own, B ≤ x) (hs : B ≤ w.heap.size) : Below B w w' :=
  ⟨h.os, h.tape, h.output, h.size, fun k hk => h.block k (by omega) (fun hm => by have := hB k hm; omega)⟩
theorem Kept.of_below {own : List Nat} {w w' : World} (h : Below w.heap.size w w') : Kept own w w' := ⟨h.os, h.tape, h.output, h.size, fun k hk _ => h.block k hk⟩
theorem Kept.setCell {own : List Nat} {a w : World} (h : Kept own a w) {p : Addr} (hp : p.block ∈ own ∨ a.heap.size ≤ p.block) (v : Value) : Kept own a (w.setCell p v) :=
  ⟨h.os, h.tape, h.output, by simpa [World.setCell] using h.size, fun k hk hn => by
    rw [Below.heap_setCell _ _ _ _ (fun e => by subst e; rcases hp with hp | hp; exact hn hp; omega), h.block k hk hn]⟩
theorem Kept.alloc {own : List Nat} {a w : World} (h : Kept own a w) (o : Obj) : Kept own a (w.alloc o) :=
  ⟨h.os, h.tape, h.output, by have := h.size; simp; omega, fun k hk hn => by rw [Below.heap_alloc _ _ _ (Nat.lt_of_lt_of_le hk h.size), h.block k hk hn]⟩
theorem Kept.drew {own : List Nat} {a w : World} (h : Kept own a w) : Kept own a w.drew := ⟨h.os, h.tape, h.output, h.size, h.block⟩
theorem Kept.drewN {own : List Nat} {a w : World} (h : Kept own a w) (n : Nat) : Kept own a (w.drewN n) := ⟨h.os, h.tape, h.output, h.size, h.block⟩
theorem Kept.grown {own : List Nat} {a w w' : World} {row : Option Nat} (h : Kept own a w) (hg : w.grownBy w' row) (hr : ∀ k, row = some k → k ∈ own ∨ a.heap.size ≤ k) : Kept own a w' :=
  ⟨hg.os.trans h.os, hg.tape.trans h.tape, hg.output.trans h.output, Nat.le_trans h.size hg.size, fun k hk hn => by
    rw [hg.block k (Nat.lt_of_lt_of_le hk h.size) (fun e => by rcases hr k e.symm with h1 | h1; exact hn h1; omega), h.block k hk hn]⟩

theorem take_succ_some {α : Type} {l : List α} {k : Nat} {x : α} (h : l[k]? = some x) : l.take (k + 1) = l.take k ++ [x] := by
  rw [List.take_add_one, h]; rfl
theorem foldl_take_succ {α β : Type} (f : β → α → β) (z : β) {l : List α} {k : Nat} {x : α} (h : l[k]? = some x) : (l.take (k + 1)).foldl f z = f ((l.take k).foldl f z) x := by
  rw [take_succ_some h, List.foldl_append]; rfl
theorem foldl_stop {α β : Type} (f : β → α → β) (s : β) (hs : ∀ y, f s y = s) : ∀ l : List α, l.foldl f s = s
  | [] => rfl
  | y :: l => by rw [List.foldl_cons, hs, foldl_stop f s hs l]
theorem foldl_take_stop {α β : Type} (f : β → α → β) (z s : β) (hs : ∀ y, f s y = s) {l : List α} {k : Nat} {x : α} (h : l[k]? = some x) (hx : f ((l.take k).foldl f z) x = s) : l.foldl f z = s := by
  have h1 : l = l.take (k + 1) ++ l.drop (k + 1) := (List.take_append_drop _ _).symm
  rw [h1, List.foldl_append, foldl_take_succ f z h, hx, foldl_stop f s hs]

/-- A slice of integers that came in, as the proof's frame opens it. -/
def IsRow (k : IntKind) (w : World) (a : Option Addr) (len cap : Nat) (zs : List Int) : Prop :=
  (a = none ∧ len = 0 ∧ cap = 0 ∧ zs = []) ∨
  ∃ x, a = some x ∧ len ≤ cap ∧ cap ≤ maxLen ∧ zs.length = cap ∧ (∀ i, i < zs.length → w.cell? (x.add i) = some (.int k (zs.getD i 0))) ∧ ∀ n ∈ zs, (Lit.int k n).wf = true

theorem IsRow.capz {k : IntKind} {w : World} {a : Option Addr} {len cap : Nat} {zs : List Int} (h : IsRow k w a len cap zs) : a = none → cap = 0 := by
  rcases h with ⟨_, _, h, _⟩ | ⟨x, h, _⟩
  · exact fun _ => h
  · intro h'; rw [h'] at h; cases h

theorem IsRow.len_le {k : IntKind} {w : World} {a : Option Addr} {len cap : Nat} {zs : List Int} (h : IsRow k w a len cap zs) : len ≤ cap := by
  rcases h with ⟨_, h, _, _⟩ | ⟨x, _, h, _⟩ <;> omega

theorem IsRow.cells {k : IntKind} {w : World} {a : Option Addr} {len cap : Nat} {zs : List Int} (h : IsRow k w a len cap zs) :
    ∃ ys : List Int, ys = zs.take len ∧ ys.length = len ∧ len ≤ maxLen ∧ Cells w.heap.size w a (ys.map (.int k)) := by
  rcases h with ⟨rfl, rfl, rfl, rfl⟩ | ⟨x, rfl, hl, hm, hz, hc, _⟩
  · exact ⟨[], rfl, rfl, Nat.zero_le _, .inl rfl⟩
  · refine ⟨_, rfl, by simp; omega, by omega, ?_⟩
    by_cases h0 : len = 0
    · subst h0; exact .inl (by simp)
    · obtain ⟨b, off, spot⟩ := x
      have h1 := hc 0 (by omega)
      have hspot : spot = none := by simpa [Addr.add] using World.cell?_spot h1
      subst hspot
      refine .inr ⟨b, off, rfl, by simpa [Addr.add] using World.block_lt_of_cell? w _ h1, fun i v hi => ?_⟩
      rw [List.getElem?_map] at hi
      obtain ⟨n, hn, rfl⟩ := Option.map_eq_some_iff.1 hi
      have hi2 : i < zs.length := by
        have := (List.getElem?_eq_some_iff.1 hn).1; simp at this; omega
      have hn' : zs[i]? = some n := by rw [List.getElem?_take] at hn; split at hn <;> simp_all
      have h2 := hc i hi2
      rw [List.getD_eq_getElem?_getD, hn', addr_add] at h2
      exact h2
end Go.Proofs.Ytjoopjmcnkiieaa

/- append of cells that lie anywhere to a row that the call owns, and where the new row lies. Conditions: none. -/
namespace Go.Proofs.Ytjoopjmcnkiieaa
open Go.RowKit

/-- v is a row of the call's own, in a block from base on, with these cells. -/
def OwnRow (w : World) (base : Nat) (e : TypeId) (size : Nat) (v : Value) (n : Nat) (xs : List Value) : Prop :=
  w.ownsRow base e size v n xs ∧ ∃ a cap, v = .slice a n cap
theorem own_form {w : World} {base : Nat} {e : TypeId} {size : Nat} {v : Value} {n : Nat} {xs : List Value} (h : w.ownsRow base e size v n xs) : ∃ a cap, v = .slice a n cap := by
  rcases h.2 with ⟨h1, rfl⟩ | ⟨g, cap, cur, h1, _⟩
  · exact ⟨_, _, h1⟩
  · exact ⟨_, _, h1⟩
theorem own_cells_of {base : Nat} {w : World} {e : TypeId} {size : Nat} {a : Option Addr} {n cap : Nat} {xs : List Value} (h : w.ownsRow base e size (.slice a n cap) n xs) : Cells w.heap.size w a xs := by
  have hh := h
  obtain ⟨hl, h1⟩ := h
  rcases h1 with ⟨h2, h3⟩ | ⟨g, c, cur, h2, hg, hh1, hn, hm, hs, ht⟩
  · subst h3; exact .inl (by simpa using hl)
  · injection h2 with e1 e2 e3; subst e1
    refine .inr ⟨g, 0, rfl, (Array.getElem?_eq_some_iff.1 hh1).1, fun i v hi => ?_⟩
    have := World.ownsRow.cells hh (g := g) rfl i v hi
    simpa [addr_add] using this
theorem own_capz {base : Nat} {w : World} {e : TypeId} {size : Nat} {a : Option Addr} {n cap : Nat} {xs : List Value} (h : w.ownsRow base e size (.slice a n cap) n xs) : a = none → cap = 0 := by
  rintro rfl
  rcases h.2 with ⟨h2, h3⟩ | ⟨g, c, cur, h2, _⟩
  · injection h2
  · cases h2
theorem own_cap {base : Nat} {w : World} {e : TypeId} {size : Nat} {a : Option Addr} {n cap : Nat} {xs : List Value} (h : w.ownsRow base e size (.slice a n cap) n xs) : n ≤ cap ∧ cap ≤ maxLen := by
  rcases h.2 with ⟨h2, h3⟩ | ⟨g, c, cur, h2, hg, hh1, hn, hm, hs, ht⟩
  · injection h2 with _ _ h4; subst h3 h4; exact ⟨Nat.le_refl _, Nat.zero_le _⟩
  · injection h2 with _ _ h4; subst h4; exact ⟨hn, hm⟩
theorem own_mono {w : World} {B B' : Nat} {e : TypeId} {size : Nat} {v : Value} {n : Nat} {xs : List Value} (h : w.ownsRow B e size v n xs) (hb : B' ≤ B) : w.ownsRow B' e size v n xs := by
  obtain ⟨h1, h2⟩ := h
  refine ⟨h1, ?_⟩
  rcases h2 with h2 | ⟨g, c, cur, h3, h4, h5⟩
  · exact .inl h2
  · exact .inr ⟨g, c, cur, h3, Nat.le_trans hb h4, h5⟩
theorem own_raise {w : World} {B B' : Nat} {e : TypeId} {size : Nat} {v : Value} {n : Nat} {xs : List Value} (h : w.ownsRow B e size v n xs) (hb : ∀ k, v.ownBlock = some k → B' ≤ k) : w.ownsRow B' e size v n xs := by
  obtain ⟨h1, h2⟩ := h
  refine ⟨h1, ?_⟩
  rcases h2 with h2 | ⟨g, c, cur, h3, h4, h5⟩
  · exact .inl h2
  · exact .inr ⟨g, c, cur, h3, hb g (by rw [h3]; rfl), h5⟩
theorem own_of_heap {w w' : World} {B : Nat} {e : TypeId} {size : Nat} {v : Value} {n : Nat} {xs : List Value} (h : w.ownsRow B e size v n xs) (hh : ∀ k, v.ownBlock = some k → w'.heap[k]? = w.heap[k]?) : w'.ownsRow B e size v n xs := by
  obtain ⟨h1, h2⟩ := h
  refine ⟨h1, ?_⟩
  rcases h2 with h2 | ⟨g, c, cur, h3, h4, h5, h6⟩
  · exact .inl h2
  · exact .inr ⟨g, c, cur, h3, h4, (hh g (by rw [h3]; rfl)).trans h5, h6⟩
theorem own_setCell {w : World} {base : Nat} {e : TypeId} {size : Nat} {v : Value} {n : Nat} {xs : List Value} (h : w.ownsRow base e size v n xs) {a : Addr} (hne : v.ownBlock ≠ some a.block) (u : Value) : (w.setCell a u).ownsRow base e size v n xs :=
  own_of_heap h fun k hk => Below.heap_setCell _ _ _ _ (fun e => hne (by rw [hk, e]))
theorem Cells.alloc' {B : Nat} {w : World} {a : Option Addr} {vs : List Value} (h : Cells B w a vs) (o : Obj) : Cells B (w.alloc o) a vs := by
  rcases h with h | ⟨b, off, h1, h2, h3⟩
  · exact .inl h
  · refine .inr ⟨b, off, h1, h2, fun i v hi => ?_⟩
    have := h3 i v hi
    rw [World.cell?_of_block (Below.heap_alloc w o _ (World.block_lt_of_cell? w _ this))]; exact this
theorem Cells.take {B : Nat} {w : World} {a : Option Addr} {vs : List Value} (h : Cells B w a vs) (n : Nat) : Cells B w a (vs.take n) := by
  rcases h with h | ⟨b, off, h1, h2, h3⟩
  · exact .inl (by simp [h])
  · refine .inr ⟨b, off, h1, h2, fun i v hi => h3 i v ?_⟩
    rw [List.getElem?_take] at hi; split at hi
    · exact hi
    · cases hi
theorem Cells.drop {B : Nat} {w : World} {b off : Nat} {vs : List Value} (h : Cells B w (some ⟨b, off, none⟩) vs) (n : Nat) : Cells B w (some ⟨b, off + n, none⟩) (vs.drop n) := by
  rcases h with h | ⟨b', off', h1, h2, h3⟩
  · exact .inl (by simp [h])
  · injection h1 with h1; injection h1 with e1 e2; subst e1 e2
    refine .inr ⟨_, _, rfl, h2, fun i v hi => ?_⟩
    rw [List.getElem?_drop] at hi
    rw [Nat.add_assoc]; exact h3 _ v hi
theorem Cells.of_heap {B : Nat} {w w' : World} {a : Option Addr} {vs : List Value} (h : Cells B w a vs) (hh : ∀ x, a = some x → w'.heap[x.block]? = w.heap[x.block]?) (hB : B ≤ w.heap.size) (hw : w.heap.size ≤ w'.heap.size) : Cells w'.heap.size w' a vs := by
  rcases h with h | ⟨b, off, h1, h2, h3⟩
  · exact .inl h
  · subst h1
    exact .inr ⟨b, off, rfl, by omega, fun i v hi => (World.cell?_of_block (a := ⟨b, off + i, none⟩) (hh ⟨b, off, none⟩ rfl)).trans (h3 i v hi)⟩

section
variable {P : Program} {w : World}
/-- append, whatever is appended: where the new row lies is said too. -/
theorem run_append_rows (t ty : TypeId) (base : Nat) (e : TypeId) (i : TypeInfo) (z : Value) (size bytes : Nat) (ht : P.underlying t = some (.slice e)) (hi : P.info? e = some i) (hz : i.zero = some z)
    (hsize : i.size = size) (hby : i.bytes = bytes) (hzs : z.cells.size = size) (hsz : 0 < size)
    (v : Value) (n : Nat) (xs : List Value) (hown : w.ownsRow base e size v n xs)
    (ad : Option Addr) (m c B : Nat) (news : List Value) (hnone : ad = none → c = 0) (hl : news.length = m * size) (hc : Cells B w ad news) (h1 : ∀ u ∈ news, u.oneCell' = true)
    (h63 : n + m ≤ maxLen) (hbytes : (n + m) * bytes ≤ 140737488355328) (hbase : base ≤ w.heap.size) :
    ∃ a' cap' w', (Builtin.append_ #[t, t] ty #[v, .slice ad m c]).run P w = .ok (.slice a' (n + m) cap') w' ∧ w'.ownsRow base e size (.slice a' (n + m) cap') (n + m) (xs ++ news) ∧ w.grownBy w' v.ownBlock ∧
      ((Value.slice a' (n + m) cap').ownBlock = v.ownBlock ∨ (Value.slice a' (n + m) cap').ownBlock = some w.heap.size) := by
  cases ad with
  | none =>
    have hn : news = [] := by
      rcases hc with h | ⟨b, off, h, _⟩
      · exact h
      · cases h
    subst hn
    have hm0 : m = 0 := by
      rcases Nat.eq_zero_or_pos m with h | h
      · exact h
      · have := Nat.mul_pos h hsz; simp at hl; omega
    subst hm0
    obtain rfl := hnone rfl
    obtain ⟨a, cap, rfl⟩ := own_form hown
    refine ⟨a, cap, w, ?_, by simpa using hown, ⟨rfl, rfl, rfl, Nat.le_refl _, fun _ _ _ => rfl⟩, .inl rfl⟩
    exact run_append_owned_none (P := P) (w := w) base t ty e i size ht hi _ n xs hown
  | some ad =>
    obtain ⟨v', w', h2, h3, h4, _, h5⟩ := run_append_own_at (P := P) w base t ty e i z size bytes ht hi hz hsize hby hzs hsz v n xs hown ad m c news hl (fun j u hj => by
      rcases hc with h | ⟨b, off, h, _, hc⟩
      · subst h; simp at hj
      · cases h; rw [addr_add]; exact hc j u hj) h1 h63 hbytes hbase
    obtain ⟨a', cap', rfl⟩ := own_form h3
    exact ⟨a', cap', w', h2, h3, h4, h5⟩

theorem wpList_append_rows {ops : Array Oper} {rest : List Oper} {o : Oper} {a : Act} {Q : Exit → Act → World → Prop} (hgd : o.guard = none) (s x : Operand) (t : TypeId)
    (ho : o.op = .call { callee := .builtin .append, args := #[s, x], argTypes := #[t, t] })
    (base : Nat) (e : TypeId) (i : TypeInfo) (z : Value) (size bytes : Nat) (ht : P.underlying t = some (.slice e)) (hi : P.info? e = some i) (hz : i.zero = some z)
    (hsize : i.size = size) (hby : i.bytes = bytes) (hzs : z.cells.size = size) (hsz : 0 < size)
    (v : Value) (n : Nat) (xs : List Value) (hs : a.eval s = v) (hown : w.ownsRow base e size v n xs)
    (ad : Option Addr) (m c B : Nat) (news : List Value) (hx : a.eval x = .slice ad m c) (hnone : ad = none → c = 0) (hl : news.length = m * size) (hc : Cells B w ad news) (h1 : ∀ u ∈ news, u.oneCell' = true)
    (h63 : n + m ≤ maxLen) (hbytes : (n + m) * bytes ≤ 140737488355328) (hbase : base ≤ w.heap.size)
    (h : ∀ a' cap' w', w'.ownsRow base e size (.slice a' (n + m) cap') (n + m) (xs ++ news) → w.grownBy w' v.ownBlock → ((Value.slice a' (n + m) cap').ownBlock = v.ownBlock ∨ (Value.slice a' (n + m) cap').ownBlock = some w.heap.size) →
      wpList P ops Q rest (a.put o.dst (.slice a' (n + m) cap')) w') : wpList P ops Q (o :: rest) a w := by
  refine wpList_plain hgd fun K hK => ?_
  obtain ⟨a', cap', w', hr, h2, h3, h4⟩ := run_append_rows (P := P) (w := w) t o.type base e i z size bytes ht hi hz hsize hby hzs hsz v n xs hown ad m c B news hnone hl hc h1 h63 hbytes hbase
  unfold Oper.wp execOp
  simp only [ho, resolve, invoke, builtin, Sem.run_bind, Sem.run_pure, Result.andThen_ok, List.map_toArray, List.map_cons, List.map_nil, hs, hx, hr]
  exact hK _ _ (h a' cap' w' h2 h3 h4)

theorem step_append_rows {ops : Array Oper} {o : Oper} {a : Act} {K : Act → World → Prop} {Q : Exit → Act → World → Prop} {E : Prop} (hgd : o.guard = none) (s x : Operand) (t : TypeId)
    (ho : o.op = .call { callee := .builtin .append, args := #[s, x], argTypes := #[t, t] })
    (base : Nat) (e : TypeId) (i : TypeInfo) (z : Value) (size bytes : Nat) (ht : P.underlying t = some (.slice e)) (hi : P.info? e = some i) (hz : i.zero = some z)
    (hsize : i.size = size) (hby : i.bytes = bytes) (hzs : z.cells.size = size) (hsz : 0 < size)
    (v : Value) (n : Nat) (xs : List Value) (hs : a.eval s = v) (hown : w.ownsRow base e size v n xs)
    (ad : Option Addr) (m c B : Nat) (news : List Value) (hx : a.eval x = .slice ad m c) (hnone : ad = none → c = 0) (hl : news.length = m * size) (hc : Cells B w ad news) (h1 : ∀ u ∈ news, u.oneCell' = true)
    (h63 : n + m ≤ maxLen) (hbytes : (n + m) * bytes ≤ 140737488355328) (hbase : base ≤ w.heap.size)
    (h : ∀ a' cap' w', w'.ownsRow base e size (.slice a' (n + m) cap') (n + m) (xs ++ news) → w.grownBy w' v.ownBlock → ((Value.slice a' (n + m) cap').ownBlock = v.ownBlock ∨ (Value.slice a' (n + m) cap').ownBlock = some w.heap.size) →
      K (a.put o.dst (.slice a' (n + m) cap')) w') : if Region.wanted o (yielded ops a.tmps) = true then Oper.wp P o a w K Q else E := by
  have hw : Region.wanted o (yielded ops a.tmps) = true := by simp [Region.wanted, hgd]
  rw [if_pos hw]
  obtain ⟨a', cap', w', hr, h2, h3, h4⟩ := run_append_rows (P := P) (w := w) t o.type base e i z size bytes ht hi hz hsize hby hzs hsz v n xs hown ad m c B news hnone hl hc h1 h63 hbytes hbase
  unfold Oper.wp execOp
  simp only [ho, resolve, invoke, builtin, Sem.run_bind, Sem.run_pure, Result.andThen_ok, List.map_toArray, List.map_cons, List.map_nil, hs, hx, hr]
  exact h a' cap' w' h2 h3 h4
end
end Go.Proofs.Ytjoopjmcnkiieaa

/- Rows of one-cell elements that a call owns, whose capacity may be less than their block. Conditions: none. -/
namespace Go.Proofs.Ytjoopjmcnkiieaa
open Go.RowKit
set_option linter.unusedSimpArgs false
set_option linter.unusedVariables false

theorem Block.setCells {b : Nat} {t : TypeId} : ∀ (vs : List Value) (o : Nat) (w : World) (cur : List Value), Block w b cur t →
    ∃ cur', Block (w.setCells b o vs) b cur' t ∧ cur'.length = cur.length ∧ ∀ q, cur'[q]? = if o ≤ q ∧ q < o + vs.length ∧ q < cur.length then vs[q - o]? else cur[q]? := by
  intro vs
  induction vs with
  | nil => intro o w cur h; exact ⟨cur, h, rfl, fun q => by rw [if_neg (by simp; omega)]⟩
  | cons v r ih =>
    intro o w cur h
    obtain ⟨cur', h1, h2, h3⟩ := ih (o + 1) _ _ (h.set o v)
    refine ⟨cur', h1, by rw [h2, List.length_set], fun q => ?_⟩
    rw [h3 q, List.length_set, List.length_cons]
    by_cases hq : o + 1 ≤ q ∧ q < o + 1 + r.length ∧ q < cur.length
    · rw [if_pos hq, if_pos (by omega), show q - o = (q - (o + 1)) + 1 from by omega, List.getElem?_cons_succ]
    · rw [if_neg hq]
      by_cases hqo : q = o
      · subst hqo
        by_cases hc : q < cur.length
        · rw [if_pos (by omega), Nat.sub_self, List.getElem?_set_self hc]; rfl
        · rw [if_neg (by omega), List.getElem?_eq_none (by simp; omega), List.getElem?_eq_none (by omega)]
      · rw [if_neg (by omega), List.getElem?_set_ne (Ne.symm hqo)]
theorem setCells_size (b : Nat) : ∀ (vs : List Value) (o : Nat) (w : World), (w.setCells b o vs).heap.size = w.heap.size := by
  intro vs
  induction vs with
  | nil => intro o w; rfl
  | cons v r ih => intro o w; show ((w.setCell ⟨b, o, none⟩ v).setCells b (o + 1) r).heap.size = _; rw [ih]; simp [World.setCell]
theorem setCells_other (b : Nat) : ∀ (vs : List Value) (o : Nat) (w : World) (k : Nat), k ≠ b → (w.setCells b o vs).heap[k]? = w.heap[k]? := by
  intro vs
  induction vs with
  | nil => intro o w k _; rfl
  | cons v r ih => intro o w k hk; show ((w.setCell ⟨b, o, none⟩ v).setCells b (o + 1) r).heap[k]? = _; rw [ih _ _ _ hk, Below.heap_setCell _ _ _ _ hk]
theorem setCells_rest (b : Nat) : ∀ (vs : List Value) (o : Nat) (w : World), (w.setCells b o vs).os = w.os ∧ (w.setCells b o vs).tape = w.tape ∧ (w.setCells b o vs).output = w.output := by
  intro vs
  induction vs with
  | nil => intro o w; exact ⟨rfl, rfl, rfl⟩
  | cons v r ih => intro o w; exact ih (o + 1) (w.setCell ⟨b, o, none⟩ v)
theorem setCells_grown {w w0 : World} {b : Nat} {vs : List Value} {o : Nat} {row : Option Nat} (h : w0.grownBy w row) (hb : row = some b ∨ w0.heap.size ≤ b) : w0.grownBy (w.setCells b o vs) row := by
  obtain ⟨r1, r2, r3⟩ := setCells_rest b vs o w
  refine ⟨r1.trans h.os, r2.trans h.tape, r3.trans h.output, by rw [setCells_size]; exact h.size, fun k hk hn => ?_⟩
  rw [setCells_other _ _ _ _ _ (fun e => by
    rcases hb with hb | hb
    · exact hn (by rw [hb, e])
    · omega), h.block k hk hn]
theorem shape_block {w : World} {b : Nat} {cur : List Value} {t : TypeId} (h : Block w b cur t) : w.shape? b = some (t, cur.length) := by
  unfold Block at h
  unfold World.shape?
  rw [h]
  rfl
theorem Block.drew' {w : World} {b : Nat} {cur : List Value} {t : TypeId} (h : Block w.drew b cur t) : Block w b cur t := h

/-- A row that a call owns: nil, or at the head of a block. -/
def Arr (w : World) (e : TypeId) (v : Value) (xs : List Value) : Prop :=
  (v = .slice none 0 0 ∧ xs = []) ∨ ∃ g cap cur, v = .slice (some ⟨g, 0, none⟩) xs.length cap ∧ Block w g cur e ∧ xs.length ≤ cap ∧ cap ≤ cur.length ∧ cur.length ≤ maxLen ∧ cur.take xs.length = xs
theorem Arr.nil {w : World} {e : TypeId} : Arr w e (.slice none 0 0) [] := .inl ⟨rfl, rfl⟩
theorem Arr.form {w : World} {e : TypeId} {v : Value} {xs : List Value} (h : Arr w e v xs) : ∃ a c, v = .slice a xs.length c ∧ xs.length ≤ c ∧ c ≤ maxLen ∧ (a = none → c = 0) := by
  rcases h with ⟨rfl, rfl⟩ | ⟨g, cap, cur, rfl, h1, h2, h3, h4, h5⟩
  · exact ⟨none, 0, rfl, Nat.le_refl _, Nat.zero_le _, fun _ => rfl⟩
  · exact ⟨_, cap, rfl, h2, by omega, fun e => by cases e⟩
theorem Arr.of_heap {w w' : World} {e : TypeId} {v : Value} {xs : List Value} (h : Arr w e v xs) (hh : ∀ k, v.ownBlock = some k → w'.heap[k]? = w.heap[k]?) : Arr w' e v xs := by
  rcases h with h | ⟨g, cap, cur, rfl, h1, h2⟩
  · exact .inl h
  · exact .inr ⟨g, cap, cur, rfl, h1.of_heap (hh g rfl), h2⟩
theorem Arr.lt {w : World} {e : TypeId} {v : Value} {xs : List Value} (h : Arr w e v xs) : ∀ k, v.ownBlock = some k → k < w.heap.size := by
  intro k hk
  rcases h with ⟨rfl, _⟩ | ⟨g, cap, cur, rfl, h1, h2⟩
  · cases hk
  · obtain rfl : g = k := by injection hk
    exact h1.lt
theorem Arr.cells {w : World} {e : TypeId} {a : Option Addr} {n c : Nat} {xs : List Value} (h : Arr w e (.slice a n c) xs) : n = xs.length ∧ Cells w.heap.size w a xs := by
  rcases h with ⟨h1, h2⟩ | ⟨g, cap, cur, h0, h1, h2, h3, h4, h5⟩
  · injection h1 with _ e2 _
    subst h2
    exact ⟨e2, .inl rfl⟩
  · injection h0 with e1 e2 e3
    subst e1 e2
    refine ⟨rfl, .inr ⟨g, 0, rfl, h1.lt, fun i v hi => ?_⟩⟩
    rw [Nat.zero_add]
    refine h1.cell ?_
    have : (cur.take xs.length)[i]? = xs[i]? := by rw [h5]
    rw [hi, List.getElem?_take_of_lt (List.getElem?_eq_some_iff.1 hi).1] at this
    exact this
theorem Arr.cell {w : World} {e : TypeId} {a : Option Addr} {n c : Nat} {xs : List Value} (h : Arr w e (.slice a n c) xs) {i : Nat} {x : Value} (hx : xs[i]? = some x) :
    ∃ g, a = some ⟨g, 0, none⟩ ∧ g < w.heap.size ∧ w.cell? ⟨g, i, none⟩ = some x ∧ w.frozen? ⟨g, i, none⟩ = false := by
  have hh := h.cells.2
  rcases h with ⟨h1, h2⟩ | ⟨g, cap, cur, h0, h1, h2⟩
  · subst h2; simp at hx
  · injection h0 with e1 e2 e3
    subst e1
    rcases hh with hh | ⟨b, off, e, _, hc⟩
    · rw [hh] at hx; simp at hx
    · injection e with e
      injection e with e1 e2
      subst e1 e2
      have := hc i x hx
      rw [Nat.zero_add] at this
      exact ⟨g, rfl, h1.lt, this, h1.free _⟩
theorem Arr.mk {w : World} {e : TypeId} {g cap : Nat} {cur xs : List Value} (h : Block w g cur e) (h1 : xs.length ≤ cap) (h2 : cap ≤ cur.length) (h3 : cur.length ≤ maxLen) (h4 : ∀ q, q < xs.length → cur[q]? = xs[q]?) : Arr w e (.slice (some ⟨g, 0, none⟩) xs.length cap) xs := by
  refine .inr ⟨g, cap, cur, rfl, h, h1, h2, h3, ?_⟩
  apply List.ext_getElem?
  intro q
  by_cases hq : q < xs.length
  · rw [List.getElem?_take_of_lt hq, h4 q hq]
  · rw [List.getElem?_eq_none (by simp; omega), List.getElem?_eq_none (by omega)]
theorem Arr.get {w : World} {e : TypeId} {g cap : Nat} {cur xs : List Value} (h : cur.take xs.length = xs) {q : Nat} (hq : q < xs.length) : cur[q]? = xs[q]? := by
  have : (cur.take xs.length)[q]? = xs[q]? := by rw [h]
  rwa [List.getElem?_take_of_lt hq] at this
/-- The first k of them, with whatever capacity there is. -/
theorem Arr.take {w : World} {e : TypeId} {a : Option Addr} {n c : Nat} {xs : List Value} (h : Arr w e (.slice a n c) xs) {k c' : Nat} (hk : k ≤ xs.length) (hc : k ≤ c') (hc' : c' ≤ c) : Arr w e (.slice a k c') (xs.take k) := by
  have hl : (xs.take k).length = k := by rw [List.length_take]; omega
  rcases h with ⟨h1, h2⟩ | ⟨g, cap, cur, h0, h1, h2, h3, h4, h5⟩
  · injection h1 with e1 e2 e3
    subst e1 e2 e3 h2
    simp at hk
    subst hk
    obtain rfl : c' = 0 := by omega
    exact Arr.nil
  · injection h0 with e1 e2 e3
    subst e1 e2 e3
    have := Arr.mk (xs := xs.take k) (cap := c') h1 (by omega) (by omega) h4 (fun q hq => by rw [Arr.get (w := w) (e := e) (g := g) (cap := c) h5 (by omega), List.getElem?_take_of_lt (by omega)])
    rw [hl] at this
    exact this
/-- A row made by the library's append belongs here. -/
theorem Arr.of_own {w : World} {B : Nat} {e : TypeId} {v : Value} {n : Nat} {xs : List Value} (h : w.ownsRow B e 1 v n xs) : Arr w e v xs := by
  obtain ⟨hl, h⟩ := h
  rw [Nat.mul_one] at hl
  rcases h with ⟨rfl, rfl⟩ | ⟨g, cap, cur, rfl, hb, hh, h1, h2, h3, h4⟩
  · exact .inl ⟨rfl, List.eq_nil_of_length_eq_zero hl⟩
  · subst hl
    rw [Nat.mul_one] at h3 h4
    exact .inr ⟨g, cap, cur.toList, rfl, by unfold Block; simpa using hh, h1, by simp; omega, by simp; omega, h4⟩
/-- One element is stored. -/
theorem Arr.set {w : World} {e : TypeId} {g n c : Nat} {xs : List Value} (h : Arr w e (.slice (some ⟨g, 0, none⟩) n c) xs) (i : Nat) (x : Value) : Arr (w.setCell ⟨g, i, none⟩ x) e (.slice (some ⟨g, 0, none⟩) n c) (xs.set i x) := by
  rcases h with ⟨h1, h2⟩ | ⟨g', cap, cur, h0, h1, h2, h3, h4, h5⟩
  · cases h1
  · injection h0 with e1 e2 e3
    injection e1 with e1
    injection e1 with e1 _
    subst e1 e2 e3
    have hm := Arr.mk (xs := xs.set i x) (cap := c) (h1.set i x) (by rw [List.length_set]; exact h2) (by rw [List.length_set]; exact h3) (by rw [List.length_set]; exact h4) (fun q hq => by
      rw [List.length_set] at hq
      have h6 := Arr.get (w := w) (e := e) (g := g) (cap := c) h5 hq
      rw [List.getElem?_set, List.getElem?_set]
      by_cases hiq : i = q
      · subst hiq; rw [if_pos rfl, if_pos rfl, if_pos (by omega), if_pos hq]
      · rw [if_neg hiq, if_neg hiq]; exact h6)
    rw [List.length_set] at hm
    exact hm

/-- v' lies where v lay, or in a block made since. -/
def NewB (w : World) (v v' : Value) : Prop := v'.ownBlock = v.ownBlock ∨ ∃ g, v'.ownBlock = some g ∧ w.heap.size ≤ g

section
variable {P : Program}
/-- append onto it, wherever what is appended lies. -/
theorem run_append_arr {w : World} {s e : TypeId} {i0 : TypeInfo} {z : Value} {by_ : Nat} (hs : P.underlying s = some (.slice e)) (hi0 : P.info? e = some i0) (hz0 : i0.zero = some z) (hz1 : i0.size = 1) (hz2 : i0.bytes = by_) (hzs : z.cells.size = 1) (hby : by_ ≤ 16)
    {a : Option Addr} {n c : Nat} {xs : List Value} (h : Arr w e (.slice a n c) xs) (h1 : ∀ u ∈ xs, u.oneCell' = true) (ty : TypeId) (ad : Option Addr) (m cx B : Nat) (news : List Value) (hm : m = news.length) (hn1 : ∀ u ∈ news, u.oneCell' = true) (hnone : ad = none → cx = 0) (hc : Cells B w ad news)
    (hz : xs.length + news.length ≤ 1099511627776) :
    ∃ a' c' w', (Builtin.append_ #[s, s] ty #[.slice a n c, .slice ad m cx]).run P w = .ok (.slice a' (n + m) c') w' ∧ Arr w' e (.slice a' (n + m) c') (xs ++ news) ∧ w.grownBy w' (Value.slice a n c).ownBlock ∧
      NewB w (.slice a n c) (.slice a' (n + m) c') := by
  obtain ⟨_, hcl⟩ := h.cells
  obtain ⟨a9, c9, ef, hlc, hcm, hca⟩ := h.form
  injection ef with e1 e2 e3
  subst e1 e2 e3 hm
  rcases hc with hx0 | ⟨b, off, rfl, _, hcx⟩
  · -- nothing is appended
    subst hx0
    have hsrc : Src P i0.size s (.slice ad 0 cx) 0 [] w := by
      rw [hz1]
      cases ad with
      | none => exact Src.ofNil w hs cx
      | some b => exact Src.ofSlice w hs b 0 cx [] (by simp) (fun j u hj => by simp at hj) (fun u hu => by cases hu)
    refine ⟨a, c, w, run_append_nothing w s s ty e i0 hs hi0 a xs.length c hlc _ hsrc, ?_, ⟨rfl, rfl, rfl, Nat.le_refl _, fun _ _ _ => rfl⟩, .inl rfl⟩
    rw [List.append_nil]
    exact h
  · have hcx' : ∀ j u, news[j]? = some u → w.cell? ((⟨b, off, none⟩ : Addr).add j) = some u := fun j u hj => by rw [addr_add]; exact hcx j u hj
    have hgrow : ∀ v' w', w'.ownsRow w.heap.size e 1 v' (xs.length + news.length) (xs ++ news) → w.grownBy w' none → ∃ a' c', v' = .slice a' (xs.length + news.length) c' ∧ Arr w' e (.slice a' (xs.length + news.length) c') (xs ++ news) ∧ w.grownBy w' (Value.slice a xs.length c).ownBlock := fun v' w' ho hg => by
      obtain ⟨a', c', rfl⟩ := own_form ho
      exact ⟨a', c', rfl, Arr.of_own ho, ⟨hg.os, hg.tape, hg.output, hg.size, fun k hk hn => hg.block k hk (fun e => by cases e)⟩⟩
    by_cases hnews : news = []
    · subst hnews
      have hsrc : Src P i0.size s (.slice (some ⟨b, off, none⟩) 0 cx) 0 [] w := by
        rw [hz1]
        exact Src.ofSlice w hs ⟨b, off, none⟩ 0 cx [] (by simp) (fun j u hj => by simp at hj) (fun u hu => by cases hu)
      refine ⟨a, c, w, run_append_nothing w s s ty e i0 hs hi0 a xs.length c hlc _ hsrc, ?_, ⟨rfl, rfl, rfl, Nat.le_refl _, fun _ _ _ => rfl⟩, .inl rfl⟩
      rw [List.append_nil]
      exact h
    have hxp : 0 < news.length := List.length_pos_iff.2 hnews
    by_cases hroom : xs.length + news.length ≤ c
    · rcases h with ⟨h3, h4⟩ | ⟨g, cap, cur, h0, h4, h5, h6, h7, h8⟩
      · injection h3 with _ _ h3; omega
      · injection h0 with e1 _ e3
        subst e1 e3
        have hrun := run_append_room_cells (P := P) w s ty e i0 hs hi0 g 0 xs.length c ⟨b, off, none⟩ news.length cx news (by rw [hz1, Nat.mul_one]) hcx' hn1 hroom
          (fun j hj => by
            rw [hz1, Nat.mul_one]
            obtain ⟨v, hv⟩ : ∃ v, cur[0 + xs.length + j]? = some v := ⟨_, List.getElem?_eq_getElem (by omega)⟩
            rw [h4.cell hv]; rfl)
          (fun j _ => h4.free _)
        rw [hz1, Nat.mul_one] at hrun
        obtain ⟨cur', k1, k2, k3⟩ := Block.setCells news (0 + xs.length) w cur h4
        refine ⟨_, c, _, hrun, ?_, setCells_grown ⟨rfl, rfl, rfl, Nat.le_refl _, fun _ _ _ => rfl⟩ (.inl rfl), .inl rfl⟩
        have := Arr.mk (xs := xs ++ news) (cap := c) k1 (by rw [List.length_append]; exact hroom) (by omega) (by omega) (fun q hq => by
          rw [List.length_append] at hq
          rw [k3]
          by_cases hq2 : q < xs.length
          · rw [if_neg (by omega), List.getElem?_append_left hq2]
            exact Arr.get (w := w) (e := e) (g := g) (cap := c) h8 hq2
          · rw [if_pos (by omega), List.getElem?_append_right (by omega)]
            congr 1; omega)
        rw [List.length_append] at this
        exact this
    · cases a with
      | none =>
        have hc0 := hca rfl
        subst hc0
        obtain rfl : xs = [] := List.eq_nil_of_length_eq_zero (by omega)
        obtain ⟨a', cap', w', r1, r2, r3, r4⟩ := run_append_rows (P := P) (w := w) s ty w.heap.size e i0 z 1 by_ hs hi0 hz0 hz1 hz2 hzs (by omega) (.slice none 0 0) 0 [] (World.ownsRow_nil _ _ _ _) (some ⟨b, off, none⟩) news.length cx (w.heap.size) news (fun e => by cases e) (by rw [Nat.mul_one])
          (.inr ⟨b, off, rfl, by
            obtain ⟨v, hv⟩ : ∃ v, news[0]? = some v := ⟨_, List.getElem?_eq_getElem hxp⟩
            exact World.block_lt_of_cell? w _ (hcx 0 v hv), hcx⟩) hn1 (by simp only [List.length_nil] at hz; unfold maxLen; omega) (by simp only [List.length_nil] at hz; have := Nat.mul_le_mul (show 0 + news.length ≤ 1099511627776 by omega) hby; omega) (Nat.le_refl _)
        refine ⟨a', cap', w', by simpa using r1, by simpa using Arr.of_own r2, ⟨r3.os, r3.tape, r3.output, r3.size, fun k hk hn => r3.block k hk (fun e => by cases e)⟩, ?_⟩
        rcases r4 with r4 | r4
        · exact .inl (by simpa using r4)
        · exact .inr ⟨_, by simpa using r4, Nat.le_refl _⟩
      | some ba =>
        have hol : ∀ j u, xs[j]? = some u → w.cell? (ba.add j) = some u := fun j u hj => by
          rcases hcl with h0 | ⟨b2, o2, e, _, h3⟩
          · rw [h0] at hj; simp at hj
          · injection e with e; subst e; rw [addr_add]; exact h3 j u hj
        obtain ⟨v', w', r1, r2, r3⟩ := run_append_arg_grows (P := P) w s ty e i0 z 1 by_ hs hi0 hz0 hz1 hz2 hzs (by omega) ba xs.length c xs (by rw [Nat.mul_one]) hol ⟨b, off, none⟩ news.length cx news (by rw [Nat.mul_one]) hcx' (by omega) (by unfold maxLen; omega) (by have := Nat.mul_le_mul (show xs.length + news.length ≤ 1099511627776 by omega) hby; omega)
        obtain ⟨a2, c2, rfl, h2, h3⟩ := hgrow v' w' r2 r3
        refine ⟨a2, c2, w', r1, h2, h3, .inr ?_⟩
        rcases r2.2 with ⟨_, h0⟩ | ⟨g2, cap2, cur2, h0, hg2, _⟩
        · omega
        · exact ⟨g2, by rw [h0]; rfl, hg2⟩
end
end Go.Proofs.Ytjoopjmcnkiieaa

/- slices.Insert of one element into a row that the call owns, at texts, numbers and pointers. Conditions: at most 1000000 elements. -/
namespace Go.Proofs.Ytjoopjmcnkiieaa
open Go.RowKit Go.Lib
set_option linter.unusedSimpArgs false
set_option linter.unusedVariables false

theorem wpList_copyR {P : Program} (w : World) {ops : Array Oper} {rest : List Oper} {o : Oper} {a : Act} {Q : Exit → Act → World → Prop} (hgd : o.guard = none) (d s : Operand) (t t' : TypeId)
    (ho : o.op = .call { callee := .builtin .copy, args := #[d, s], argTypes := #[t, t'] }) (v u : Value) (hd : a.eval d = v) (hs : a.eval s = u) {v' : Value} {w' : World}
    (hr : (Builtin.copy_ #[t, t'] o.type #[v, u]).run P w = .ok v' w') (h : wpList P ops Q rest (a.put o.dst v') w') : wpList P ops Q (o :: rest) a w := by
  refine wpList_plain hgd fun K hK => ?_
  unfold Oper.wp execOp
  simp only [ho, resolve, invoke, builtin, Sem.run_bind, Sem.run_pure, Result.andThen_ok, List.map_toArray, List.map_cons, List.map_nil, hd, hs, hr]
  exact hK _ _ h
theorem step_copyR {P : Program} {ops : Array Oper} {o : Oper} {a : Act} {w : World} {K : Act → World → Prop} {Q : Exit → Act → World → Prop} {E : Prop}
    (hg : o.guard = none) (d x : Operand) (dT sT : TypeId) (hop : o.op = Op.call { callee := Callee.builtin Builtin.copy, args := #[d, x], argTypes := #[dT, sT] })
    (v u : Value) (hd : a.eval d = v) (hx : a.eval x = u) {v' : Value} {w' : World} (hr : (Builtin.copy_ #[dT, sT] o.type #[v, u]).run P w = .ok v' w') (hK : K (a.put o.dst v') w') :
    if Region.wanted o (yielded ops a.tmps) = true then Oper.wp P o a w K Q else E := by
  have hw : Region.wanted o (yielded ops a.tmps) = true := by simp [Region.wanted, hg]
  rw [if_pos hw]
  unfold Oper.wp
  simp [execOp, hop, resolve, invoke, builtin, hd, hx, hr, Result.andThen]
  exact hK
theorem wpList_append_arr {P : Program} {w : World} {ops : Array Oper} {rest : List Oper} {o : Oper} {av : Act} {Q : Exit → Act → World → Prop} (hgd : o.guard = none) (so xo : Operand) (s : TypeId)
    (ho : o.op = .call { callee := .builtin .append, args := #[so, xo], argTypes := #[s, s] }) {e : TypeId} {i0 : TypeInfo} {z : Value} {by_ : Nat} (hs : P.underlying s = some (.slice e)) (hi0 : P.info? e = some i0) (hz0 : i0.zero = some z) (hz1 : i0.size = 1) (hz2 : i0.bytes = by_) (hzs : z.cells.size = 1) (hby : by_ ≤ 16)
    (a : Option Addr) (n c : Nat) (xs : List Value) (hsv : av.eval so = .slice a n c) (h : Arr w e (.slice a n c) xs) (h1 : ∀ u ∈ xs, u.oneCell' = true) (ad : Option Addr) (m cx B : Nat) (news : List Value) (hxv : av.eval xo = .slice ad m cx) (hm : m = news.length) (hn1 : ∀ u ∈ news, u.oneCell' = true) (hnone : ad = none → cx = 0) (hc : Cells B w ad news)
    (hz : xs.length + news.length ≤ 1099511627776)
    (hK : ∀ a' c' w', Arr w' e (.slice a' (n + m) c') (xs ++ news) → w.grownBy w' (Value.slice a n c).ownBlock → NewB w (.slice a n c) (.slice a' (n + m) c') → wpList P ops Q rest (av.put o.dst (.slice a' (n + m) c')) w') : wpList P ops Q (o :: rest) av w := by
  refine wpList_plain hgd fun K hKK => ?_
  obtain ⟨a', c', w', hr, h2, h3, h4⟩ := run_append_arr hs hi0 hz0 hz1 hz2 hzs hby h h1 o.type ad m cx B news hm hn1 hnone hc hz
  unfold Oper.wp execOp
  simp only [ho, resolve, invoke, builtin, Sem.run_bind, Sem.run_pure, Result.andThen_ok, List.map_toArray, List.map_cons, List.map_nil, hsv, hxv, hr]
  exact hKK _ _ (hK a' c' w' h2 h3 h4)
theorem step_append_arr {P : Program} {w : World} {ops : Array Oper} {o : Oper} {av : Act} {K : Act → World → Prop} {Q : Exit → Act → World → Prop} {E : Prop} (hgd : o.guard = none) (so xo : Operand) (s : TypeId)
    (ho : o.op = .call { callee := .builtin .append, args := #[so, xo], argTypes := #[s, s] }) {e : TypeId} {i0 : TypeInfo} {z : Value} {by_ : Nat} (hs : P.underlying s = some (.slice e)) (hi0 : P.info? e = some i0) (hz0 : i0.zero = some z) (hz1 : i0.size = 1) (hz2 : i0.bytes = by_) (hzs : z.cells.size = 1) (hby : by_ ≤ 16)
    (a : Option Addr) (n c : Nat) (xs : List Value) (hsv : av.eval so = .slice a n c) (h : Arr w e (.slice a n c) xs) (h1 : ∀ u ∈ xs, u.oneCell' = true) (ad : Option Addr) (m cx B : Nat) (news : List Value) (hxv : av.eval xo = .slice ad m cx) (hm : m = news.length) (hn1 : ∀ u ∈ news, u.oneCell' = true) (hnone : ad = none → cx = 0) (hc : Cells B w ad news)
    (hz : xs.length + news.length ≤ 1099511627776)
    (hK : ∀ a' c' w', Arr w' e (.slice a' (n + m) c') (xs ++ news) → w.grownBy w' (Value.slice a n c).ownBlock → NewB w (.slice a n c) (.slice a' (n + m) c') → K (av.put o.dst (.slice a' (n + m) c')) w') : if Region.wanted o (yielded ops av.tmps) = true then Oper.wp P o av w K Q else E := by
  have hw : Region.wanted o (yielded ops av.tmps) = true := by simp [Region.wanted, hgd]
  rw [if_pos hw]
  obtain ⟨a', c', w', hr, h2, h3, h4⟩ := run_append_arr hs hi0 hz0 hz1 hz2 hzs hby h h1 o.type ad m cx B news hm hn1 hnone hc hz
  unfold Oper.wp execOp
  simp only [ho, resolve, invoke, builtin, Sem.run_bind, Sem.run_pure, Result.andThen_ok, List.map_toArray, List.map_cons, List.map_nil, hsv, hxv, hr]
  exact hK a' c' w' h2 h3 h4
/-- The same memory and the same outside. -/
def Same4 (W W' : World) : Prop := W.heap = W'.heap ∧ W.os = W'.os ∧ W.tape = W'.tape ∧ W.output = W'.output
theorem Same4.refl (W : World) : Same4 W W := ⟨rfl, rfl, rfl, rfl⟩
theorem Same4.drew {W W' : World} (h : Same4 W W') : Same4 W.drew W' := h
theorem Same4.cell {W W' : World} (h : Same4 W W') (a : Addr) : W.cell? a = W'.cell? a := World.cell?_of_block (by rw [h.1])
theorem Same4.frozen {W W' : World} (h : Same4 W W') (a : Addr) : W.frozen? a = W'.frozen? a := World.frozen?_of_block (by rw [h.1])
theorem Same4.setCells {W W' : World} (h : Same4 W W') (b o : Nat) (vs : List Value) : Same4 (W.setCells b o vs) (W'.setCells b o vs) := by
  induction vs generalizing W W' o with
  | nil => exact h
  | cons v r ih =>
    refine ih (W := W.setCell ⟨b, o, none⟩ v) (W' := W'.setCell ⟨b, o, none⟩ v) ?_ (o + 1)
    obtain ⟨h1, h2, h3, h4⟩ := h
    exact ⟨by simp [World.setCell, h1], h2, h3, h4⟩
/-- An element put in at a place. -/
def insAt {α : Type} (xs : List α) (i : Nat) (x : α) : List α := xs.take i ++ x :: xs.drop i
theorem insAt_len {α : Type} {xs : List α} {i : Nat} (x : α) (hi : i ≤ xs.length) : (insAt xs i x).length = xs.length + 1 := by
  simp [insAt]; omega
theorem insAt_get {α : Type} {xs : List α} {i : Nat} (x : α) (hi : i ≤ xs.length) (q : Nat) : (insAt xs i x)[q]? = if q < i then xs[q]? else if q = i then some x else xs[q - 1]? := by
  unfold insAt
  have hl : (xs.take i).length = i := by simp; omega
  by_cases h1 : q < i
  · rw [if_pos h1, List.getElem?_append_left (by omega), List.getElem?_take_of_lt h1]
  · rw [if_neg h1, List.getElem?_append_right (by omega), hl]
    by_cases h2 : q = i
    · subst h2; rw [if_pos rfl, Nat.sub_self]; rfl
    · rw [if_neg h2, show q - i = (q - i - 1) + 1 from by omega, List.getElem?_cons_succ, List.getElem?_drop]
      congr 1; omega
theorem insAt_end {α : Type} {xs : List α} {n : Nat} (h : xs.length = n) (x : α) : insAt xs n x = xs ++ [x] := by subst h; simp [insAt]
def InsA (e : TypeId) (xs : List Value) (i : Nat) (x v : Value) (w : World) (e0 : Ending) (w' : World) : Prop :=
  ∃ g c', e0 = .returned (.slice (some ⟨g, 0, none⟩) (xs.length + 1) c') ∧ Arr w' e (.slice (some ⟨g, 0, none⟩) (xs.length + 1) c') (insAt xs i x) ∧ w.grownBy w' v.ownBlock ∧ NewB w v (.slice (some ⟨g, 0, none⟩) (xs.length + 1) c')
theorem isSome_setCells (b : Nat) (vs : List Value) (o : Nat) (w : World) (h : ∀ j, j < vs.length → (w.cell? ⟨b, o + j, none⟩).isSome = true) (k : Nat) (hk : (w.cell? ⟨b, k, none⟩).isSome = true) : ((w.setCells b o vs).cell? ⟨b, k, none⟩).isSome = true := by
  by_cases hin : o ≤ k ∧ k < o + vs.length
  · have := World.cell?_setCells_in b vs o w h (k - o) (by omega)
    rw [show o + (k - o) = k by omega] at this
    rw [this]; rfl
  · rw [World.cell?_setCells_out b vs o w ⟨b, k, none⟩ (fun _ _ => by show k < o ∨ o + vs.length ≤ k; omega)]
    exact hk
theorem zc_len {z : Value} (hz : z.cells.size = 1) (k : Nat) : (Builtin.zeroCells z.cells k).size = k := by
  rw [size_zeroCells, hz, Nat.mul_one]

theorem Try.infoS : (Try.prog.info? 9).map (fun i => (i.zero, i.size, i.bytes)) = some (some (Value.string ⟨#[]⟩), 1, 16) := by kernel_rfl
set_option maxRecDepth 100000 in
set_option maxHeartbeats 8000000 in
theorem insS_any (xs : List Value) (i : Nat) (x : Value) (a : Option Addr) (c vb : Nat) (w : World) (h : Arr w 9 (.slice a xs.length c) xs) (h1 : ∀ u ∈ xs, u.oneCell' = true) (hx1 : x.oneCell' = true) (hi : i ≤ xs.length) (hx : Block w vb [x] 9) (hne : (Value.slice a xs.length c).ownBlock ≠ some vb) (hl : xs.length ≤ 1000000) :
    Calls Try.prog 42 #[.slice a xs.length c, .int .i64 i, .slice (some ⟨vb, 0, none⟩) 1 1] w (InsA 9 xs i x (.slice a xs.length c) w) := by
  obtain ⟨i0, hi0, hz0, hz1, hz2⟩ := info_parts Try.infoS
  have hzs : (Value.string ⟨#[]⟩).cells.size = 1 := rfl
  have hxc : Cells w.heap.size w (some ⟨vb, 0, none⟩) [x] := .inr ⟨vb, 0, rfl, hx.lt, fun j u hj => by rw [Nat.zero_add]; exact hx.cell hj⟩
  have hx1' : ∀ u ∈ [x], u.oneCell' = true := fun u hu => by simp at hu; subst hu; exact hx1
  obtain ⟨a9, c9, ef, hlc, hcm, hca⟩ := h.form
  injection ef with e1 e2 e3
  subst e1 e3
  have hc63 : (c : Int) ≤ 9223372036854775807 := by unfold maxLen at hcm; omega
  obtain ⟨n, hn⟩ : ∃ n, xs.length = n := ⟨_, rfl⟩
  have HN := Lib.hid hn
  by_cases hin : i < xs.length
  · rcases h with ⟨h3, h4⟩ | ⟨g, cap, cur, h0, h4, h5, h6, h7, h8⟩
    · subst h4; simp at hin
    · injection h0 with e1 _ e3
      subst e1 e3
      have hgv : vb ≠ g := fun e => hne (by rw [e]; rfl)
      have hget : ∀ q, q < xs.length → cur[q]? = xs[q]? := fun q hq => Arr.get (w := w) (e := 9) (g := g) (cap := c) h8 hq
      have hcs : ∀ j v, xs[j]? = some v → w.cell? ⟨g, j, none⟩ = some v := fun j v hj => h4.cell (by rw [hget j (List.getElem?_eq_some_iff.1 hj).1]; exact hj)
      have hsome : ∀ j, j < c → (w.cell? ⟨g, j, none⟩).isSome = true := fun j hj => by
        obtain ⟨v, hv⟩ : ∃ v, cur[j]? = some v := ⟨_, List.getElem?_eq_getElem (by omega)⟩
        rw [h4.cell hv]; rfl
      have hsz : (Try.prog.info? 9).map (·.size) = some 1 := by rw [hi0]; simp [hz1]
      have hdl : (xs.drop i).length = n - i := by rw [List.length_drop, hn]
      by_cases hroom : n + 1 ≤ c
      · -- in place
        have hov : ∀ lb cb, (callFunc 55 #[.slice (some ⟨vb, 0, none⟩) 1 1, .slice (some ⟨g, i + 1, none⟩) lb cb]).run Try.prog w = .ok (.value (.bool false)) w := fun lb cb => by
          rw [run_callFunc_extern Try.func55 (by kernel_rfl) (by kernel_rfl) (by kernel_rfl) (e := Extern.SlicesOverlaps.overlaps #[27, 27] #[4]) (by kernel_rfl),
            Lib.run_overlaps_apart w 27 4 9 Try.underlying27 1 Try.sizeOf9 ⟨vb, 0, none⟩ ⟨g, i + 1, none⟩ 1 1 lb cb hgv 9 9 1 cur.length (shape_block hx) (shape_block h4) (by omega) (hx.free _) (hx.free _)]
          rfl
        obtain ⟨W1, hW1⟩ : ∃ W1, W1 = w.drew.setCells g (i + 1) (xs.drop i) := ⟨_, rfl⟩
        have hcp1 : ∀ ty dc sc, (Builtin.copy_ #[27, 27] ty #[.slice (some ⟨g, i + 1, none⟩) (n - i) dc, .slice (some ⟨g, i, none⟩) (n + 1 - i) sc]).run Try.prog w.drew = .ok (goInt (xs.drop i).length) W1 := fun ty dc sc => by
          rw [hW1]
          exact run_copy_cells w.drew _ _ ty 9 g (i + 1) (n - i) dc ⟨g, i, none⟩ (n + 1 - i) sc (xs.drop i) Try.underlying27 hsz (by rw [hdl]; simp only [Nat.min_def]; split <;> omega)
            (fun j v hj => by rw [addr_add]; exact hcs (i + j) v (by rwa [List.getElem?_drop] at hj))
            (fun j hj => hsome _ (by rw [hdl] at hj; omega)) (fun j hj => h4.free _) (fun v hv => h1 v (List.mem_of_mem_drop hv))
        have hcp2 : ∀ ty dc, (Builtin.copy_ #[27, 27] ty #[.slice (some ⟨g, i, none⟩) (n + 1 - i) dc, .slice (some ⟨vb, 0, none⟩) 1 1]).run Try.prog W1 = .ok (goInt [x].length) (W1.setCells g i [x]) := fun ty dc =>
          run_copy_cells W1 _ _ ty 9 g i (n + 1 - i) dc ⟨vb, 0, none⟩ 1 1 [x] Try.underlying27 hsz (by simp only [List.length_singleton, Nat.min_def]; split <;> omega)
            (fun j v hj => by
              rw [addr_add, Nat.zero_add, hW1, World.cell?_setCells_out g _ _ _ _ (fun h _ => absurd h hgv)]
              exact hx.cell hj)
            (fun j hj => by rw [hW1]; exact isSome_setCells g _ (i + 1) w.drew (fun t ht => hsome (i + 1 + t) (by rw [hdl] at ht; omega)) (i + j) (hsome (i + j) (by simp at hj; omega))) (fun j hj => by rw [hW1, World.frozen?_setCells]; exact h4.free _) hx1'
        have HW1 := Lib.hid hW1
        have HFIN : Hid (InsA 9 xs i x (.slice (some ⟨g, 0, none⟩) xs.length c) w (.returned (.slice (some ⟨g, 0, none⟩) (n + 1) c)) (W1.setCells g i [x])) := Lib.hid (by
          subst hn
          obtain ⟨c1, b1, l1, g1⟩ := Block.setCells (xs.drop i) (i + 1) w.drew cur h4
          rw [← hW1] at b1
          obtain ⟨c2, b2, l2, g2⟩ := Block.setCells [x] i W1 c1 b1
          refine ⟨g, c, rfl, ?_, ?_, .inl rfl⟩
          · have := Arr.mk (xs := insAt xs i x) (cap := c) b2 (by rw [insAt_len x hi]; omega) (by omega) (by omega) (fun q hq => by
              rw [insAt_len x hi] at hq
              rw [g2, g1, l1, insAt_get x hi, List.length_drop]
              simp only [List.length_singleton]
              by_cases h1 : q < i
              · rw [if_neg (by omega), if_neg (by omega), if_pos h1, hget q (by omega)]
              · by_cases h2 : q = i
                · subst h2
                  rw [if_pos (by omega), if_neg (by omega), if_pos rfl, Nat.sub_self]; rfl
                · rw [if_neg (by omega), if_pos (by omega), if_neg h1, if_neg h2, List.getElem?_drop]
                  congr 1; omega)
            rw [insAt_len x hi] at this
            exact this
          · refine setCells_grown ?_ (.inl rfl)
            rw [hW1]
            exact setCells_grown ⟨rfl, rfl, rfl, Nat.le_refl _, fun _ _ _ => rfl⟩ (.inl rfl))
        have hw1 : IntKind.i64.wrap ((i : Int) + 1) = (i : Int) + 1 := by rw [IntKind.wrap_i64]; omega
        have hz4 : ¬ ((i : Int) = (n : Int)) := by omega
        have hb1 : (0 : Int) ≤ (i : Int) + 1 := by omega
        have htn : ((i : Int) + 1).toNat = i + 1 := by omega
        have hb2 : ¬ (c = i + 1) := by omega
        have hb3 : (i : Int) ≤ (n : Int) + 1 := by omega
        have hb4 : ¬ (c = i) := by omega
        have hin1 : i ≤ n := by omega
        rw [hn]
        rw [hn] at hlc hin hi h5
        rw [hn] at HFIN
        clear hn h4 h8 hget hcs hsome hx hxc hne h1 hx1 hx1' hW1 h5 h6 h7
        go_enter Try.func42, Try.ntmps42
        go_wp2_with (simp only [hov])
        go_region_law (refine step_copyR rfl _ _ 27 27 rfl _ _ (by simp [Act.eval, Act.put]) (by simp [Act.eval, Act.put]) (hcp1 _ _ _) ?_)
        go_wp2_with (at_builtin; refine wpList_copyR _ rfl _ _ 27 27 rfl _ _ rfl rfl (hcp2 _ _) ?_)
        go_ret
        exact HFIN.out
      · -- anew
        obtain rfl : c = n := by omega
        have hbl : g < w.heap.size := h4.lt
        have hvl : vb < w.heap.size := hx.lt
        have hold : (Builtin.firstCells i0.size i (.slice (some ⟨g, 0, none⟩) i c)).run Try.prog w.drew = .ok (xs.take i).toArray w.drew := by
          rw [hz1]
          exact run_firstCells_some w.drew 1 i ⟨g, 0, none⟩ i c (xs.take i) (by rw [List.length_take]; omega) (fun j v hj => by
            rw [addr_add, Nat.zero_add]
            rw [List.getElem?_take] at hj
            split at hj
            · exact hcs j v hj
            · cases hj)
        obtain ⟨G, hG⟩ : ∃ G, grownCap w (c + 1) c 9 = G := ⟨_, rfl⟩
        have hGn : c + 1 ≤ G := by rw [← hG]; exact grownCap_ge w _ _ _
        have hG63 : G ≤ maxLen := by rw [← hG]; exact grownCap_le_maxLen w (c + 1) c 9 (by unfold maxLen; omega)
        obtain ⟨ROW, hROW⟩ : ∃ ROW : Array Value, (xs.take i).toArray ++ Builtin.zeroCells (Value.string ⟨#[]⟩).cells (c + 1 - i) ++ Builtin.zeroCells (Value.string ⟨#[]⟩).cells (G - (c + 1)) = ROW := ⟨_, rfl⟩
        have hrz : ∀ ty k, k = (((c + 1 - i : Nat)) : Int) → (Builtin.append_ #[27, 3] ty #[.slice (some ⟨g, 0, none⟩) i c, .int .i64 k]).run Try.prog w = .ok (.slice (some ⟨w.heap.size, 0, none⟩) (c + 1) G) (w.drew.alloc (.cells ROW 9)) := fun ty k hk => by
          have h := Lib.run_append_grow_zeros w 27 3 ty 9 i0 _ .i64 .i64 Try.underlying27 Try.underlying3 hi0 hz0 (some ⟨g, 0, none⟩) i c (xs.take i) hold (c + 1 - i) (by omega) (by omega) (by omega) (by omega) (by rw [hz2]; omega) (by rw [hz2, show i + (c + 1 - i) = c + 1 from by omega]; exact growslice_fits (by omega) (by omega))
          rw [show i + (c + 1 - i) = c + 1 from by omega, hG, hROW] at h
          rw [hk]
          exact h
        have hRl : ROW.size = G := by
          rw [← hROW]; simp only [Array.size_append, zc_len hzs, List.size_toArray, List.length_take]; omega
        have hRg : ∀ q, q < i → ROW.toList[q]? = xs[q]? := fun q hq => by
          rw [← hROW, Array.toList_append, Array.toList_append, List.getElem?_append_left (by simp; omega), List.getElem?_append_left (by simp; omega)]
          simp only [List.toList_toArray]
          rw [List.getElem?_take_of_lt hq]
        obtain ⟨W1, hW1⟩ : ∃ W1, w.drew.alloc (.cells ROW 9) = W1 := ⟨_, rfl⟩
        have hWb : Block W1 w.heap.size ROW.toList 9 := by rw [← hW1]; exact Block.new w.drew ROW.toList 9
        have hold2 : ∀ b j, b < w.heap.size → W1.cell? ⟨b, j, none⟩ = w.cell? ⟨b, j, none⟩ := fun b j hb => by
          rw [← hW1]
          exact World.cell?_of_block (a := ⟨b, j, none⟩) (Below.heap_alloc w.drew _ _ hb)
        have hcpA : ∀ (W : World), Same4 W W1 → ∀ ty dc, (Builtin.copy_ #[27, 27] ty #[.slice (some ⟨w.heap.size, i, none⟩) (c + 1 - i) dc, .slice (some ⟨vb, 0, none⟩) 1 1]).run Try.prog W = .ok (goInt [x].length) (W.setCells w.heap.size i [x]) := fun W hW ty dc =>
          run_copy_cells W _ _ ty 9 w.heap.size i (c + 1 - i) dc ⟨vb, 0, none⟩ 1 1 [x] Try.underlying27 hsz (by simp only [List.length_singleton, Nat.min_def]; split <;> omega)
            (fun j v hj => by rw [addr_add, Nat.zero_add, hW.cell, hold2 vb j hvl]; exact hx.cell hj)
            (fun j hj => by
              obtain ⟨v, hv⟩ : ∃ v, ROW.toList[i + j]? = some v := ⟨_, List.getElem?_eq_getElem (by simp at hj; simp; omega)⟩
              rw [hW.cell, hWb.cell hv]; rfl) (fun j hj => by rw [hW.frozen]; exact hWb.free _) hx1'
        have hcpB : ∀ (W : World), Same4 W (W1.setCells w.heap.size i [x]) → ∀ ty dc sc, (Builtin.copy_ #[27, 27] ty #[.slice (some ⟨w.heap.size, i + 1, none⟩) (c - i) dc, .slice (some ⟨g, i, none⟩) (c - i) sc]).run Try.prog W = .ok (goInt (xs.drop i).length) (W.setCells w.heap.size (i + 1) (xs.drop i)) := fun W hW ty dc sc =>
          run_copy_cells W _ _ ty 9 w.heap.size (i + 1) (c - i) dc ⟨g, i, none⟩ (c - i) sc (xs.drop i) Try.underlying27 hsz (by rw [hdl]; simp only [Nat.min_def]; split <;> omega)
            (fun j v hj => by
              rw [addr_add, hW.cell, World.cell?_setCells_out _ _ _ _ _ (fun h _ => by simp only at h; omega), hold2 g _ hbl]
              exact hcs (i + j) v (by rwa [List.getElem?_drop] at hj))
            (fun j hj => by
              rw [hdl] at hj
              rw [hW.cell]
              have hs : ∀ t, t < G → (W1.cell? ⟨w.heap.size, t, none⟩).isSome = true := fun t ht => by
                obtain ⟨v, hv⟩ : ∃ v, ROW.toList[t]? = some v := ⟨_, List.getElem?_eq_getElem (by simp; omega)⟩
                rw [hWb.cell hv]; rfl
              exact isSome_setCells _ _ i W1 (fun t ht => hs (i + t) (by simp at ht; omega)) (i + 1 + j) (hs (i + 1 + j) (by omega)))
            (fun j hj => by rw [hW.frozen, World.frozen?_setCells]; exact hWb.free _) (fun v hv => h1 v (List.mem_of_mem_drop hv))
        have HFIN : Hid (∀ W, Same4 W ((W1.setCells w.heap.size i [x]).setCells w.heap.size (i + 1) (xs.drop i)) → InsA 9 xs i x (.slice (some ⟨g, 0, none⟩) xs.length c) w (.returned (.slice (some ⟨w.heap.size, 0, none⟩) (c + 1) G)) W) := Lib.hid (fun W hW => by
          subst hn
          obtain ⟨c1, b1, l1, g1⟩ := Block.setCells [x] i W1 ROW.toList hWb
          obtain ⟨c2, b2, l2, g2⟩ := Block.setCells (xs.drop i) (i + 1) _ c1 b1
          have hl1 : c1.length = G := by rw [l1, Array.length_toList, hRl]
          refine ⟨w.heap.size, G, rfl, ?_, ?_, .inr ⟨_, rfl, Nat.le_refl _⟩⟩
          · have := Arr.mk (w := W) (xs := insAt xs i x) (cap := G) (b2.of_heap (by rw [hW.1])) (by rw [insAt_len x hi]; omega) (by omega) (by omega) (fun q hq => by
              rw [insAt_len x hi] at hq
              rw [g2, g1, l1, insAt_get x hi, List.length_drop]
              simp only [List.length_singleton, Array.length_toList, hRl, hl1]
              by_cases h1 : q < i
              · rw [if_neg (by omega), if_neg (by omega), if_pos h1, hRg q h1]
              · by_cases h2 : q = i
                · subst h2
                  rw [if_neg (by omega), if_pos (by omega), if_neg (by omega), if_pos rfl, Nat.sub_self]; rfl
                · rw [if_pos (by omega), if_neg h1, if_neg h2, List.getElem?_drop]
                  congr 1; omega)
            rw [insAt_len x hi] at this
            exact this
          · have hg : w.grownBy ((W1.setCells w.heap.size i [x]).setCells w.heap.size (i + 1) (xs.drop i)) (some g) := by
              refine setCells_grown (setCells_grown ?_ (.inr (Nat.le_refl _))) (.inr (Nat.le_refl _))
              rw [← hW1]
              exact ⟨rfl, rfl, rfl, by simp, fun k hk _ => Below.heap_alloc w.drew _ _ hk⟩
            exact ⟨hW.2.1.trans hg.os, hW.2.2.1.trans hg.tape, hW.2.2.2.trans hg.output, by rw [hW.1]; exact hg.size, fun k hk hn => by rw [hW.1]; exact hg.block k hk hn⟩)
        rw [hW1] at hrz
        have HW1 := Lib.hid hW1
        have hw1 : IntKind.i64.wrap ((i : Int) + 1) = (i : Int) + 1 := by rw [IntKind.wrap_i64]; omega
        have hz4 : ¬ ((i : Int) = (c : Int)) := by omega
        have hb1 : (0 : Int) ≤ (i : Int) + 1 := by omega
        have htn : ((i : Int) + 1).toNat = i + 1 := by omega
        have hb2 : ¬ (c = i + 1) ∨ True := .inr trivial
        have hb4 : ¬ (c = i) := by omega
        have hb5 : ¬ (G = i) := by omega
        have hb6 : ¬ (G = i + 1) := by omega
        have hz5 : (c : Int) < (c : Int) + 1 := by omega
        have hG64 : (G : Int) ≤ 9223372036854775807 := by unfold maxLen at hG63; omega
        have hik : i ≤ c := by omega
        rw [hn]
        rw [hn] at hlc hin hi h5
        rw [hn] at HFIN
        clear hn h4 h8 hget hcs hsome hx hxc hne h1 hx1 hx1' hW1 h5 h6 h7 hold hROW hRl hRg hWb hold2 hG hb2 hroom
        go_enter Try.func42, Try.ntmps42
        have hcA := hcpA W1 (Same4.refl _)
        have hcB := hcpB _ (Same4.refl _)
        have hcD := hcpB _ (Same4.refl _).drew
        clear hcpA hcpB
        go_wp2_with (at_builtin; refine Lib.wpList_append_run _ rfl _ _ _ _ rfl _ _ rfl rfl _ _ (hrz _ _ (by omega)) ?_)
        go_wp2_with fail
        go_region_law (refine step_copyR rfl _ _ 27 27 rfl _ _ (by simp [Act.eval, Act.put]) (by simp [Act.eval, Act.put]) (by first | exact hcD _ _ _ | exact hcB _ _ _) ?_)
        all_goals go_wp2_with fail
        all_goals go_ret
        all_goals exact HFIN.out _ (by first | exact Same4.refl _ | exact (Same4.refl _).drew | exact (((Same4.refl _).drew).setCells _ _ _) | exact (((Same4.refl _).drew).setCells _ _ _).drew)
  · obtain rfl : i = xs.length := by omega
    have HARR := Lib.hid h
    have HXC := Lib.hid hxc
    have HH1 := Lib.hid h1
    have HX1 := Lib.hid hx1'
    rw [hn] at HARR hlc ⊢
    clear h hxc h1 hx1' hx hne hca hi hin
    have hcc : (a = none ∧ c = 0 ∧ n = 0) ∨ (∃ g, a = some ⟨g, 0, none⟩) ∧ (n < c ∨ c = n) := by
      rcases HARR.out with ⟨h3, h4⟩ | ⟨g, cap, cur, h0, _⟩
      · injection h3 with e1 e2 e3; exact .inl ⟨e1, e3, e2⟩
      · injection h0 with e1 e2 e3; exact .inr ⟨⟨g, e1⟩, by omega⟩
    rcases hcc with ⟨rfl, rfl, rfl⟩ | ⟨⟨g0, rfl⟩, hcc | rfl⟩
    all_goals
     go_enter Try.func42, Try.ntmps42
     go_wp2_with (at_builtin; refine wpList_append_arr rfl _ _ 27 rfl Try.underlying27 hi0 hz0 hz1 hz2 hzs (by decide) _ _ _ xs rfl HARR.out HH1.out (some ⟨vb, 0, none⟩) 1 1 w.heap.size [x] rfl rfl HX1.out (fun h => by cases h) HXC.out (by have := HN.out; simp; omega) ?_)
     intro a' c' w' g1 g2 g3
     have HG1 := Lib.hid g1
     have HG2 := Lib.hid g2
     have HG3 := Lib.hid g3
     clear g1 g2 g3
     go_wp2_with fail
     go_ret
     have hs : ∃ g, a' = some ⟨g, 0, none⟩ := by
       rcases HG1.out with ⟨h3, h4⟩ | ⟨g, cap, cur, h0, _⟩
       · simp at h4
       · injection h0 with e1 _ _; exact ⟨g, e1⟩
     obtain ⟨g, rfl⟩ := hs
     exact ⟨g, c', by rw [HN.out]; rfl, by rw [insAt_end HN.out, HN.out]; exact HG1.out, HG2.out, by rw [HN.out]; exact HG3.out⟩

theorem Try.infoI : (Try.prog.info? 2).map (fun i => (i.zero, i.size, i.bytes)) = some (some (Value.int .i64 0), 1, 8) := by kernel_rfl
set_option maxRecDepth 100000 in
set_option maxHeartbeats 8000000 in
theorem insI_any (xs : List Value) (i : Nat) (x : Value) (a : Option Addr) (c vb : Nat) (w : World) (h : Arr w 2 (.slice a xs.length c) xs) (h1 : ∀ u ∈ xs, u.oneCell' = true) (hx1 : x.oneCell' = true) (hi : i ≤ xs.length) (hx : Block w vb [x] 2) (hne : (Value.slice a xs.length c).ownBlock ≠ some vb) (hl : xs.length ≤ 1000000) :
    Calls Try.prog 43 #[.slice a xs.length c, .int .i64 i, .slice (some ⟨vb, 0, none⟩) 1 1] w (InsA 2 xs i x (.slice a xs.length c) w) := by
  obtain ⟨i0, hi0, hz0, hz1, hz2⟩ := info_parts Try.infoI
  have hzs : (Value.int .i64 0).cells.size = 1 := rfl
  have hxc : Cells w.heap.size w (some ⟨vb, 0, none⟩) [x] := .inr ⟨vb, 0, rfl, hx.lt, fun j u hj => by rw [Nat.zero_add]; exact hx.cell hj⟩
  have hx1' : ∀ u ∈ [x], u.oneCell' = true := fun u hu => by simp at hu; subst hu; exact hx1
  obtain ⟨a9, c9, ef, hlc, hcm, hca⟩ := h.form
  injection ef with e1 e2 e3
  subst e1 e3
  have hc63 : (c : Int) ≤ 9223372036854775807 := by unfold maxLen at hcm; omega
  obtain ⟨n, hn⟩ : ∃ n, xs.length = n := ⟨_, rfl⟩
  have HN := Lib.hid hn
  by_cases hin : i < xs.length
  · rcases h with ⟨h3, h4⟩ | ⟨g, cap, cur, h0, h4, h5, h6, h7, h8⟩
    · subst h4; simp at hin
    · injection h0 with e1 _ e3
      subst e1 e3
      have hgv : vb ≠ g := fun e => hne (by rw [e]; rfl)
      have hget : ∀ q, q < xs.length → cur[q]? = xs[q]? := fun q hq => Arr.get (w := w) (e := 2) (g := g) (cap := c) h8 hq
      have hcs : ∀ j v, xs[j]? = some v → w.cell? ⟨g, j, none⟩ = some v := fun j v hj => h4.cell (by rw [hget j (List.getElem?_eq_some_iff.1 hj).1]; exact hj)
      have hsome : ∀ j, j < c → (w.cell? ⟨g, j, none⟩).isSome = true := fun j hj => by
        obtain ⟨v, hv⟩ : ∃ v, cur[j]? = some v := ⟨_, List.getElem?_eq_getElem (by omega)⟩
        rw [h4.cell hv]; rfl
      have hsz : (Try.prog.info? 2).map (·.size) = some 1 := by rw [hi0]; simp [hz1]
      have hdl : (xs.drop i).length = n - i := by rw [List.length_drop, hn]
      by_cases hroom : n + 1 ≤ c
      · -- in place
        have hov : ∀ lb cb, (callFunc 57 #[.slice (some ⟨vb, 0, none⟩) 1 1, .slice (some ⟨g, i + 1, none⟩) lb cb]).run Try.prog w = .ok (.value (.bool false)) w := fun lb cb => by
          rw [run_callFunc_extern Try.func57 (by kernel_rfl) (by kernel_rfl) (by kernel_rfl) (e := Extern.SlicesOverlaps.overlaps #[28, 28] #[4]) (by kernel_rfl),
            Lib.run_overlaps_apart w 28 4 2 Try.underlying28 1 Try.sizeOf2 ⟨vb, 0, none⟩ ⟨g, i + 1, none⟩ 1 1 lb cb hgv 2 2 1 cur.length (shape_block hx) (shape_block h4) (by omega) (hx.free _) (hx.free _)]
          rfl
        obtain ⟨W1, hW1⟩ : ∃ W1, W1 = w.drew.setCells g (i + 1) (xs.drop i) := ⟨_, rfl⟩
        have hcp1 : ∀ ty dc sc, (Builtin.copy_ #[28, 28] ty #[.slice (some ⟨g, i + 1, none⟩) (n - i) dc, .slice (some ⟨g, i, none⟩) (n + 1 - i) sc]).run Try.prog w.drew = .ok (goInt (xs.drop i).length) W1 := fun ty dc sc => by
          rw [hW1]
          exact run_copy_cells w.drew _ _ ty 2 g (i + 1) (n - i) dc ⟨g, i, none⟩ (n + 1 - i) sc (xs.drop i) Try.underlying28 hsz (by rw [hdl]; simp only [Nat.min_def]; split <;> omega)
            (fun j v hj => by rw [addr_add]; exact hcs (i + j) v (by rwa [List.getElem?_drop] at hj))
            (fun j hj => hsome _ (by rw [hdl] at hj; omega)) (fun j hj => h4.free _) (fun v hv => h1 v (List.mem_of_mem_drop hv))
        have hcp2 : ∀ ty dc, (Builtin.copy_ #[28, 28] ty #[.slice (some ⟨g, i, none⟩) (n + 1 - i) dc, .slice (some ⟨vb, 0, none⟩) 1 1]).run Try.prog W1 = .ok (goInt [x].length) (W1.setCells g i [x]) := fun ty dc =>
          run_copy_cells W1 _ _ ty 2 g i (n + 1 - i) dc ⟨vb, 0, none⟩ 1 1 [x] Try.underlying28 hsz (by simp only [List.length_singleton, Nat.min_def]; split <;> omega)
            (fun j v hj => by
              rw [addr_add, Nat.zero_add, hW1, World.cell?_setCells_out g _ _ _ _ (fun h _ => absurd h hgv)]
              exact hx.cell hj)
            (fun j hj => by rw [hW1]; exact isSome_setCells g _ (i + 1) w.drew (fun t ht => hsome (i + 1 + t) (by rw [hdl] at ht; omega)) (i + j) (hsome (i + j) (by simp at hj; omega))) (fun j hj => by rw [hW1, World.frozen?_setCells]; exact h4.free _) hx1'
        have HW1 := Lib.hid hW1
        have HFIN : Hid (InsA 2 xs i x (.slice (some ⟨g, 0, none⟩) xs.length c) w (.returned (.slice (some ⟨g, 0, none⟩) (n + 1) c)) (W1.setCells g i [x])) := Lib.hid (by
          subst hn
          obtain ⟨c1, b1, l1, g1⟩ := Block.setCells (xs.drop i) (i + 1) w.drew cur h4
          rw [← hW1] at b1
          obtain ⟨c2, b2, l2, g2⟩ := Block.setCells [x] i W1 c1 b1
          refine ⟨g, c, rfl, ?_, ?_, .inl rfl⟩
          · have := Arr.mk (xs := insAt xs i x) (cap := c) b2 (by rw [insAt_len x hi]; omega) (by omega) (by omega) (fun q hq => by
              rw [insAt_len x hi] at hq
              rw [g2, g1, l1, insAt_get x hi, List.length_drop]
              simp only [List.length_singleton]
              by_cases h1 : q < i
              · rw [if_neg (by omega), if_neg (by omega), if_pos h1, hget q (by omega)]
              · by_cases h2 : q = i
                · subst h2
                  rw [if_pos (by omega), if_neg (by omega), if_pos rfl, Nat.sub_self]; rfl
                · rw [if_neg (by omega), if_pos (by omega), if_neg h1, if_neg h2, List.getElem?_drop]
                  congr 1; omega)
            rw [insAt_len x hi] at this
            exact this
          · refine setCells_grown ?_ (.inl rfl)
            rw [hW1]
            exact setCells_grown ⟨rfl, rfl, rfl, Nat.le_refl _, fun _ _ _ => rfl⟩ (.inl rfl))
        have hw1 : IntKind.i64.wrap ((i : Int) + 1) = (i : Int) + 1 := by rw [IntKind.wrap_i64]; omega
        have hz4 : ¬ ((i : Int) = (n : Int)) := by omega
        have hb1 : (0 : Int) ≤ (i : Int) + 1 := by omega
        have htn : ((i : Int) + 1).toNat = i + 1 := by omega
        have hb2 : ¬ (c = i + 1) := by omega
        have hb3 : (i : Int) ≤ (n : Int) + 1 := by omega
        have hb4 : ¬ (c = i) := by omega
        have hin1 : i ≤ n := by omega
        rw [hn]
        rw [hn] at hlc hin hi h5
        rw [hn] at HFIN
        clear hn h4 h8 hget hcs hsome hx hxc hne h1 hx1 hx1' hW1 h5 h6 h7
        go_enter Try.func43, Try.ntmps43
        go_wp2_with (simp only [hov])
        go_region_law (refine step_copyR rfl _ _ 28 28 rfl _ _ (by simp [Act.eval, Act.put]) (by simp [Act.eval, Act.put]) (hcp1 _ _ _) ?_)
        go_wp2_with (at_builtin; refine wpList_copyR _ rfl _ _ 28 28 rfl _ _ rfl rfl (hcp2 _ _) ?_)
        go_ret
        exact HFIN.out
      · -- anew
        obtain rfl : c = n := by omega
        have hbl : g < w.heap.size := h4.lt
        have hvl : vb < w.heap.size := hx.lt
        have hold : (Builtin.firstCells i0.size i (.slice (some ⟨g, 0, none⟩) i c)).run Try.prog w.drew = .ok (xs.take i).toArray w.drew := by
          rw [hz1]
          exact run_firstCells_some w.drew 1 i ⟨g, 0, none⟩ i c (xs.take i) (by rw [List.length_take]; omega) (fun j v hj => by
            rw [addr_add, Nat.zero_add]
            rw [List.getElem?_take] at hj
            split at hj
            · exact hcs j v hj
            · cases hj)
        obtain ⟨G, hG⟩ : ∃ G, grownCap w (c + 1) c 2 = G := ⟨_, rfl⟩
        have hGn : c + 1 ≤ G := by rw [← hG]; exact grownCap_ge w _ _ _
        have hG63 : G ≤ maxLen := by rw [← hG]; exact grownCap_le_maxLen w (c + 1) c 2 (by unfold maxLen; omega)
        obtain ⟨ROW, hROW⟩ : ∃ ROW : Array Value, (xs.take i).toArray ++ Builtin.zeroCells (Value.int .i64 0).cells (c + 1 - i) ++ Builtin.zeroCells (Value.int .i64 0).cells (G - (c + 1)) = ROW := ⟨_, rfl⟩
        have hrz : ∀ ty k, k = (((c + 1 - i : Nat)) : Int) → (Builtin.append_ #[28, 3] ty #[.slice (some ⟨g, 0, none⟩) i c, .int .i64 k]).run Try.prog w = .ok (.slice (some ⟨w.heap.size, 0, none⟩) (c + 1) G) (w.drew.alloc (.cells ROW 2)) := fun ty k hk => by
          have h := Lib.run_append_grow_zeros w 28 3 ty 2 i0 _ .i64 .i64 Try.underlying28 Try.underlying3 hi0 hz0 (some ⟨g, 0, none⟩) i c (xs.take i) hold (c + 1 - i) (by omega) (by omega) (by omega) (by omega) (by rw [hz2]; omega) (by rw [hz2, show i + (c + 1 - i) = c + 1 from by omega]; exact growslice_fits (by omega) (by omega))
          rw [show i + (c + 1 - i) = c + 1 from by omega, hG, hROW] at h
          rw [hk]
          exact h
        have hRl : ROW.size = G := by
          rw [← hROW]; simp only [Array.size_append, zc_len hzs, List.size_toArray, List.length_take]; omega
        have hRg : ∀ q, q < i → ROW.toList[q]? = xs[q]? := fun q hq => by
          rw [← hROW, Array.toList_append, Array.toList_append, List.getElem?_append_left (by simp; omega), List.getElem?_append_left (by simp; omega)]
          simp only [List.toList_toArray]
          rw [List.getElem?_take_of_lt hq]
        obtain ⟨W1, hW1⟩ : ∃ W1, w.drew.alloc (.cells ROW 2) = W1 := ⟨_, rfl⟩
        have hWb : Block W1 w.heap.size ROW.toList 2 := by rw [← hW1]; exact Block.new w.drew ROW.toList 2
        have hold2 : ∀ b j, b < w.heap.size → W1.cell? ⟨b, j, none⟩ = w.cell? ⟨b, j, none⟩ := fun b j hb => by
          rw [← hW1]
          exact World.cell?_of_block (a := ⟨b, j, none⟩) (Below.heap_alloc w.drew _ _ hb)
        have hcpA : ∀ (W : World), Same4 W W1 → ∀ ty dc, (Builtin.copy_ #[28, 28] ty #[.slice (some ⟨w.heap.size, i, none⟩) (c + 1 - i) dc, .slice (some ⟨vb, 0, none⟩) 1 1]).run Try.prog W = .ok (goInt [x].length) (W.setCells w.heap.size i [x]) := fun W hW ty dc =>
          run_copy_cells W _ _ ty 2 w.heap.size i (c + 1 - i) dc ⟨vb, 0, none⟩ 1 1 [x] Try.underlying28 hsz (by simp only [List.length_singleton, Nat.min_def]; split <;> omega)
            (fun j v hj => by rw [addr_add, Nat.zero_add, hW.cell, hold2 vb j hvl]; exact hx.cell hj)
            (fun j hj => by
              obtain ⟨v, hv⟩ : ∃ v, ROW.toList[i + j]? = some v := ⟨_, List.getElem?_eq_getElem (by simp at hj; simp; omega)⟩
              rw [hW.cell, hWb.cell hv]; rfl) (fun j hj => by rw [hW.frozen]; exact hWb.free _) hx1'
        have hcpB : ∀ (W : World), Same4 W (W1.setCells w.heap.size i [x]) → ∀ ty dc sc, (Builtin.copy_ #[28, 28] ty #[.slice (some ⟨w.heap.size, i + 1, none⟩) (c - i) dc, .slice (some ⟨g, i, none⟩) (c - i) sc]).run Try.prog W = .ok (goInt (xs.drop i).length) (W.setCells w.heap.size (i + 1) (xs.drop i)) := fun W hW ty dc sc =>
          run_copy_cells W _ _ ty 2 w.heap.size (i + 1) (c - i) dc ⟨g, i, none⟩ (c - i) sc (xs.drop i) Try.underlying28 hsz (by rw [hdl]; simp only [Nat.min_def]; split <;> omega)
            (fun j v hj => by
              rw [addr_add, hW.cell, World.cell?_setCells_out _ _ _ _ _ (fun h _ => by simp only at h; omega), hold2 g _ hbl]
              exact hcs (i + j) v (by rwa [List.getElem?_drop] at hj))
            (fun j hj => by
              rw [hdl] at hj
              rw [hW.cell]
              have hs : ∀ t, t < G → (W1.cell? ⟨w.heap.size, t, none⟩).isSome = true := fun t ht => by
                obtain ⟨v, hv⟩ : ∃ v, ROW.toList[t]? = some v := ⟨_, List.getElem?_eq_getElem (by simp; omega)⟩
                rw [hWb.cell hv]; rfl
              exact isSome_setCells _ _ i W1 (fun t ht => hs (i + t) (by simp at ht; omega)) (i + 1 + j) (hs (i + 1 + j) (by omega)))
            (fun j hj => by rw [hW.frozen, World.frozen?_setCells]; exact hWb.free _) (fun v hv => h1 v (List.mem_of_mem_drop hv))
        have HFIN : Hid (∀ W, Same4 W ((W1.setCells w.heap.size i [x]).setCells w.heap.size (i + 1) (xs.drop i)) → InsA 2 xs i x (.slice (some ⟨g, 0, none⟩) xs.length c) w (.returned (.slice (some ⟨w.heap.size, 0, none⟩) (c + 1) G)) W) := Lib.hid (fun W hW => by
          subst hn
          obtain ⟨c1, b1, l1, g1⟩ := Block.setCells [x] i W1 ROW.toList hWb
          obtain ⟨c2, b2, l2, g2⟩ := Block.setCells (xs.drop i) (i + 1) _ c1 b1
          have hl1 : c1.length = G := by rw [l1, Array.length_toList, hRl]
          refine ⟨w.heap.size, G, rfl, ?_, ?_, .inr ⟨_, rfl, Nat.le_refl _⟩⟩
          · have := Arr.mk (w := W) (xs := insAt xs i x) (cap := G) (b2.of_heap (by rw [hW.1])) (by rw [insAt_len x hi]; omega) (by omega) (by omega) (fun q hq => by
              rw [insAt_len x hi] at hq
              rw [g2, g1, l1, insAt_get x hi, List.length_drop]
              simp only [List.length_singleton, Array.length_toList, hRl, hl1]
              by_cases h1 : q < i
              · rw [if_neg (by omega), if_neg (by omega), if_pos h1, hRg q h1]
              · by_cases h2 : q = i
                · subst h2
                  rw [if_neg (by omega), if_pos (by omega), if_neg (by omega), if_pos rfl, Nat.sub_self]; rfl
                · rw [if_pos (by omega), if_neg h1, if_neg h2, List.getElem?_drop]
                  congr 1; omega)
            rw [insAt_len x hi] at this
            exact this
          · have hg : w.grownBy ((W1.setCells w.heap.size i [x]).setCells w.heap.size (i + 1) (xs.drop i)) (some g) := by
              refine setCells_grown (setCells_grown ?_ (.inr (Nat.le_refl _))) (.inr (Nat.le_refl _))
              rw [← hW1]
              exact ⟨rfl, rfl, rfl, by simp, fun k hk _ => Below.heap_alloc w.drew _ _ hk⟩
            exact ⟨hW.2.1.trans hg.os, hW.2.2.1.trans hg.tape, hW.2.2.2.trans hg.output, by rw [hW.1]; exact hg.size, fun k hk hn => by rw [hW.1]; exact hg.block k hk hn⟩)
        rw [hW1] at hrz
        have HW1 := Lib.hid hW1
        have hw1 : IntKind.i64.wrap ((i : Int) + 1) = (i : Int) + 1 := by rw [IntKind.wrap_i64]; omega
        have hz4 : ¬ ((i : Int) = (c : Int)) := by omega
        have hb1 : (0 : Int) ≤ (i : Int) + 1 := by omega
        have htn : ((i : Int) + 1).toNat = i + 1 := by omega
        have hb2 : ¬ (c = i + 1) ∨ True := .inr trivial
        have hb4 : ¬ (c = i) := by omega
        have hb5 : ¬ (G = i) := by omega
        have hb6 : ¬ (G = i + 1) := by omega
        have hz5 : (c : Int) < (c : Int) + 1 := by omega
        have hG64 : (G : Int) ≤ 9223372036854775807 := by unfold maxLen at hG63; omega
        have hik : i ≤ c := by omega
        rw [hn]
        rw [hn] at hlc hin hi h5
        rw [hn] at HFIN
        clear hn h4 h8 hget hcs hsome hx hxc hne h1 hx1 hx1' hW1 h5 h6 h7 hold hROW hRl hRg hWb hold2 hG hb2 hroom
        go_enter Try.func43, Try.ntmps43
        have hcA := hcpA W1 (Same4.refl _)
        have hcB := hcpB _ (Same4.refl _)
        have hcD := hcpB _ (Same4.refl _).drew
        clear hcpA hcpB
        go_wp2_with (at_builtin; refine Lib.wpList_append_run _ rfl _ _ _ _ rfl _ _ rfl rfl _ _ (hrz _ _ (by omega)) ?_)
        go_wp2_with fail
        go_region_law (refine step_copyR rfl _ _ 28 28 rfl _ _ (by simp [Act.eval, Act.put]) (by simp [Act.eval, Act.put]) (by first | exact hcD _ _ _ | exact hcB _ _ _) ?_)
        all_goals go_wp2_with fail
        all_goals go_ret
        all_goals exact HFIN.out _ (by first | exact Same4.refl _ | exact (Same4.refl _).drew | exact (((Same4.refl _).drew).setCells _ _ _) | exact (((Same4.refl _).drew).setCells _ _ _).drew)
  · obtain rfl : i = xs.length := by omega
    have HARR := Lib.hid h
    have HXC := Lib.hid hxc
    have HH1 := Lib.hid h1
    have HX1 := Lib.hid hx1'
    rw [hn] at HARR hlc ⊢
    clear h hxc h1 hx1' hx hne hca hi hin
    have hcc : (a = none ∧ c = 0 ∧ n = 0) ∨ (∃ g, a = some ⟨g, 0, none⟩) ∧ (n < c ∨ c = n) := by
      rcases HARR.out with ⟨h3, h4⟩ | ⟨g, cap, cur, h0, _⟩
      · injection h3 with e1 e2 e3; exact .inl ⟨e1, e3, e2⟩
      · injection h0 with e1 e2 e3; exact .inr ⟨⟨g, e1⟩, by omega⟩
    rcases hcc with ⟨rfl, rfl, rfl⟩ | ⟨⟨g0, rfl⟩, hcc | rfl⟩
    all_goals
     go_enter Try.func43, Try.ntmps43
     go_wp2_with (at_builtin; refine wpList_append_arr rfl _ _ 28 rfl Try.underlying28 hi0 hz0 hz1 hz2 hzs (by decide) _ _ _ xs rfl HARR.out HH1.out (some ⟨vb, 0, none⟩) 1 1 w.heap.size [x] rfl rfl HX1.out (fun h => by cases h) HXC.out (by have := HN.out; simp; omega) ?_)
     intro a' c' w' g1 g2 g3
     have HG1 := Lib.hid g1
     have HG2 := Lib.hid g2
     have HG3 := Lib.hid g3
     clear g1 g2 g3
     go_wp2_with fail
     go_ret
     have hs : ∃ g, a' = some ⟨g, 0, none⟩ := by
       rcases HG1.out with ⟨h3, h4⟩ | ⟨g, cap, cur, h0, _⟩
       · simp at h4
       · injection h0 with e1 _ _; exact ⟨g, e1⟩
     obtain ⟨g, rfl⟩ := hs
     exact ⟨g, c', by rw [HN.out]; rfl, by rw [insAt_end HN.out, HN.out]; exact HG1.out, HG2.out, by rw [HN.out]; exact HG3.out⟩

theorem Try.infoP : (Try.prog.info? 61).map (fun i => (i.zero, i.size, i.bytes)) = some (some (Value.pointer none), 1, 8) := by kernel_rfl
set_option maxRecDepth 100000 in
set_option maxHeartbeats 8000000 in
theorem insP_any (xs : List Value) (i : Nat) (x : Value) (a : Option Addr) (c vb : Nat) (w : World) (h : Arr w 61 (.slice a xs.length c) xs) (h1 : ∀ u ∈ xs, u.oneCell' = true) (hx1 : x.oneCell' = true) (hi : i ≤ xs.length) (hx : Block w vb [x] 61) (hne : (Value.slice a xs.length c).ownBlock ≠ some vb) (hl : xs.length ≤ 1000000) :
    Calls Try.prog 44 #[.slice a xs.length c, .int .i64 i, .slice (some ⟨vb, 0, none⟩) 1 1] w (InsA 61 xs i x (.slice a xs.length c) w) := by
  obtain ⟨i0, hi0, hz0, hz1, hz2⟩ := info_parts Try.infoP
  have hzs : (Value.pointer none).cells.size = 1 := rfl
  have hxc : Cells w.heap.size w (some ⟨vb, 0, none⟩) [x] := .inr ⟨vb, 0, rfl, hx.lt, fun j u hj => by rw [Nat.zero_add]; exact hx.cell hj⟩
  have hx1' : ∀ u ∈ [x], u.oneCell' = true := fun u hu => by simp at hu; subst hu; exact hx1
  obtain ⟨a9, c9, ef, hlc, hcm, hca⟩ := h.form
  injection ef with e1 e2 e3
  subst e1 e3
  have hc63 : (c : Int) ≤ 9223372036854775807 := by unfold maxLen at hcm; omega
  obtain ⟨n, hn⟩ : ∃ n, xs.length = n := ⟨_, rfl⟩
  have HN := Lib.hid hn
  by_cases hin : i < xs.length
  · rcases h with ⟨h3, h4⟩ | ⟨g, cap, cur, h0, h4, h5, h6, h7, h8⟩
    · subst h4; simp at hin
    · injection h0 with e1 _ e3
      subst e1 e3
      have hgv : vb ≠ g := fun e => hne (by rw [e]; rfl)
      have hget : ∀ q, q < xs.length → cur[q]? = xs[q]? := fun q hq => Arr.get (w := w) (e := 61) (g := g) (cap := c) h8 hq
      have hcs : ∀ j v, xs[j]? = some v → w.cell? ⟨g, j, none⟩ = some v := fun j v hj => h4.cell (by rw [hget j (List.getElem?_eq_some_iff.1 hj).1]; exact hj)
      have hsome : ∀ j, j < c → (w.cell? ⟨g, j, none⟩).isSome = true := fun j hj => by
        obtain ⟨v, hv⟩ : ∃ v, cur[j]? = some v := ⟨_, List.getElem?_eq_getElem (by omega)⟩
        rw [h4.cell hv]; rfl
      have hsz : (Try.prog.info? 61).map (·.size) = some 1 := by rw [hi0]; simp [hz1]
      have hdl : (xs.drop i).length = n - i := by rw [List.length_drop, hn]
      by_cases hroom : n + 1 ≤ c
      · -- in place
        have hov : ∀ lb cb, (callFunc 59 #[.slice (some ⟨vb, 0, none⟩) 1 1, .slice (some ⟨g, i + 1, none⟩) lb cb]).run Try.prog w = .ok (.value (.bool false)) w := fun lb cb => by
          rw [run_callFunc_extern Try.func59 (by kernel_rfl) (by kernel_rfl) (by kernel_rfl) (e := Extern.SlicesOverlaps.overlaps #[67, 67] #[4]) (by kernel_rfl),
            Lib.run_overlaps_apart w 67 4 61 Try.underlying67 1 Try.sizeOf61 ⟨vb, 0, none⟩ ⟨g, i + 1, none⟩ 1 1 lb cb hgv 61 61 1 cur.length (shape_block hx) (shape_block h4) (by omega) (hx.free _) (hx.free _)]
          rfl
        obtain ⟨W1, hW1⟩ : ∃ W1, W1 = w.drew.setCells g (i + 1) (xs.drop i) := ⟨_, rfl⟩
        have hcp1 : ∀ ty dc sc, (Builtin.copy_ #[67, 67] ty #[.slice (some ⟨g, i + 1, none⟩) (n - i) dc, .slice (some ⟨g, i, none⟩) (n + 1 - i) sc]).run Try.prog w.drew = .ok (goInt (xs.drop i).length) W1 := fun ty dc sc => by
          rw [hW1]
          exact run_copy_cells w.drew _ _ ty 61 g (i + 1) (n - i) dc ⟨g, i, none⟩ (n + 1 - i) sc (xs.drop i) Try.underlying67 hsz (by rw [hdl]; simp only [Nat.min_def]; split <;> omega)
            (fun j v hj => by rw [addr_add]; exact hcs (i + j) v (by rwa [List.getElem?_drop] at hj))
            (fun j hj => hsome _ (by rw [hdl] at hj; omega)) (fun j hj => h4.free _) (fun v hv => h1 v (List.mem_of_mem_drop hv))
        have hcp2 : ∀ ty dc, (Builtin.copy_ #[67, 67] ty #[.slice (some ⟨g, i, none⟩) (n + 1 - i) dc, .slice (some ⟨vb, 0, none⟩) 1 1]).run Try.prog W1 = .ok (goInt [x].length) (W1.setCells g i [x]) := fun ty dc =>
          run_copy_cells W1 _ _ ty 61 g i (n + 1 - i) dc ⟨vb, 0, none⟩ 1 1 [x] Try.underlying67 hsz (by simp only [List.length_singleton, Nat.min_def]; split <;> omega)
            (fun j v hj => by
              rw [addr_add, Nat.zero_add, hW1, World.cell?_setCells_out g _ _ _ _ (fun h _ => absurd h hgv)]
              exact hx.cell hj)
            (fun j hj => by rw [hW1]; exact isSome_setCells g _ (i + 1) w.drew (fun t ht => hsome (i + 1 + t) (by rw [hdl] at ht; omega)) (i + j) (hsome (i + j) (by simp at hj; omega))) (fun j hj => by rw [hW1, World.frozen?_setCells]; exact h4.free _) hx1'
        have HW1 := Lib.hid hW1
        have HFIN : Hid (InsA 61 xs i x (.slice (some ⟨g, 0, none⟩) xs.length c) w (.returned (.slice (some ⟨g, 0, none⟩) (n + 1) c)) (W1.setCells g i [x])) := Lib.hid (by
          subst hn
          obtain ⟨c1, b1, l1, g1⟩ := Block.setCells (xs.drop i) (i + 1) w.drew cur h4
          rw [← hW1] at b1
          obtain ⟨c2, b2, l2, g2⟩ := Block.setCells [x] i W1 c1 b1
          refine ⟨g, c, rfl, ?_, ?_, .inl rfl⟩
          · have := Arr.mk (xs := insAt xs i x) (cap := c) b2 (by rw [insAt_len x hi]; omega) (by omega) (by omega) (fun q hq => by
              rw [insAt_len x hi] at hq
              rw [g2, g1, l1, insAt_get x hi, List.length_drop]
              simp only [List.length_singleton]
              by_cases h1 : q < i
              · rw [if_neg (by omega), if_neg (by omega), if_pos h1, hget q (by omega)]
              · by_cases h2 : q = i
                · subst h2
                  rw [if_pos (by omega), if_neg (by omega), if_pos rfl, Nat.sub_self]; rfl
                · rw [if_neg (by omega), if_pos (by omega), if_neg h1, if_neg h2, List.getElem?_drop]
                  congr 1; omega)
            rw [insAt_len x hi] at this
            exact this
          · refine setCells_grown ?_ (.inl rfl)
            rw [hW1]
            exact setCells_grown ⟨rfl, rfl, rfl, Nat.le_refl _, fun _ _ _ => rfl⟩ (.inl rfl))
        have hw1 : IntKind.i64.wrap ((i : Int) + 1) = (i : Int) + 1 := by rw [IntKind.wrap_i64]; omega
        have hz4 : ¬ ((i : Int) = (n : Int)) := by omega
        have hb1 : (0 : Int) ≤ (i : Int) + 1 := by omega
        have htn : ((i : Int) + 1).toNat = i + 1 := by omega
        have hb2 : ¬ (c = i + 1) := by omega
        have hb3 : (i : Int) ≤ (n : Int) + 1 := by omega
        have hb4 : ¬ (c = i) := by omega
        have hin1 : i ≤ n := by omega
        rw [hn]
        rw [hn] at hlc hin hi h5
        rw [hn] at HFIN
        clear hn h4 h8 hget hcs hsome hx hxc hne h1 hx1 hx1' hW1 h5 h6 h7
        go_enter Try.func44, Try.ntmps44
        go_wp2_with (simp only [hov])
        go_region_law (refine step_copyR rfl _ _ 67 67 rfl _ _ (by simp [Act.eval, Act.put]) (by simp [Act.eval, Act.put]) (hcp1 _ _ _) ?_)
        go_wp2_with (at_builtin; refine wpList_copyR _ rfl _ _ 67 67 rfl _ _ rfl rfl (hcp2 _ _) ?_)
        go_ret
        exact HFIN.out
      · -- anew
        obtain rfl : c = n := by omega
        have hbl : g < w.heap.size := h4.lt
        have hvl : vb < w.heap.size := hx.lt
        have hold : (Builtin.firstCells i0.size i (.slice (some ⟨g, 0, none⟩) i c)).run Try.prog w.drew = .ok (xs.take i).toArray w.drew := by
          rw [hz1]
          exact run_firstCells_some w.drew 1 i ⟨g, 0, none⟩ i c (xs.take i) (by rw [List.length_take]; omega) (fun j v hj => by
            rw [addr_add, Nat.zero_add]
            rw [List.getElem?_take] at hj
            split at hj
            · exact hcs j v hj
            · cases hj)
        obtain ⟨G, hG⟩ : ∃ G, grownCap w (c + 1) c 61 = G := ⟨_, rfl⟩
        have hGn : c + 1 ≤ G := by rw [← hG]; exact grownCap_ge w _ _ _
        have hG63 : G ≤ maxLen := by rw [← hG]; exact grownCap_le_maxLen w (c + 1) c 61 (by unfold maxLen; omega)
        obtain ⟨ROW, hROW⟩ : ∃ ROW : Array Value, (xs.take i).toArray ++ Builtin.zeroCells (Value.pointer none).cells (c + 1 - i) ++ Builtin.zeroCells (Value.pointer none).cells (G - (c + 1)) = ROW := ⟨_, rfl⟩
        have hrz : ∀ ty k, k = (((c + 1 - i : Nat)) : Int) → (Builtin.append_ #[67, 3] ty #[.slice (some ⟨g, 0, none⟩) i c, .int .i64 k]).run Try.prog w = .ok (.slice (some ⟨w.heap.size, 0, none⟩) (c + 1) G) (w.drew.alloc (.cells ROW 61)) := fun ty k hk => by
          have h := Lib.run_append_grow_zeros w 67 3 ty 61 i0 _ .i64 .i64 Try.underlying67 Try.underlying3 hi0 hz0 (some ⟨g, 0, none⟩) i c (xs.take i) hold (c + 1 - i) (by omega) (by omega) (by omega) (by omega) (by rw [hz2]; omega) (by rw [hz2, show i + (c + 1 - i) = c + 1 from by omega]; exact growslice_fits (by omega) (by omega))
          rw [show i + (c + 1 - i) = c + 1 from by omega, hG, hROW] at h
          rw [hk]
          exact h
        have hRl : ROW.size = G := by
          rw [← hROW]; simp only [Array.size_append, zc_len hzs, List.size_toArray, List.length_take]; omega
        have hRg : ∀ q, q < i → ROW.toList[q]? = xs[q]? := fun q hq => by
          rw [← hROW, Array.toList_append, Array.toList_append, List.getElem?_append_left (by simp; omega), List.getElem?_append_left (by simp; omega)]
          simp only [List.toList_toArray]
          rw [List.getElem?_take_of_lt hq]
        obtain ⟨W1, hW1⟩ : ∃ W1, w.drew.alloc (.cells ROW 61) = W1 := ⟨_, rfl⟩
        have hWb : Block W1 w.heap.size ROW.toList 61 := by rw [← hW1]; exact Block.new w.drew ROW.toList 61
        have hold2 : ∀ b j, b < w.heap.size → W1.cell? ⟨b, j, none⟩ = w.cell? ⟨b, j, none⟩ := fun b j hb => by
          rw [← hW1]
          exact World.cell?_of_block (a := ⟨b, j, none⟩) (Below.heap_alloc w.drew _ _ hb)
        have hcpA : ∀ (W : World), Same4 W W1 → ∀ ty dc, (Builtin.copy_ #[67, 67] ty #[.slice (some ⟨w.heap.size, i, none⟩) (c + 1 - i) dc, .slice (some ⟨vb, 0, none⟩) 1 1]).run Try.prog W = .ok (goInt [x].length) (W.setCells w.heap.size i [x]) := fun W hW ty dc =>
          run_copy_cells W _ _ ty 61 w.heap.size i (c + 1 - i) dc ⟨vb, 0, none⟩ 1 1 [x] Try.underlying67 hsz (by simp only [List.length_singleton, Nat.min_def]; split <;> omega)
            (fun j v hj => by rw [addr_add, Nat.zero_add, hW.cell, hold2 vb j hvl]; exact hx.cell hj)
            (fun j hj => by
              obtain ⟨v, hv⟩ : ∃ v, ROW.toList[i + j]? = some v := ⟨_, List.getElem?_eq_getElem (by simp at hj; simp; omega)⟩
              rw [hW.cell, hWb.cell hv]; rfl) (fun j hj => by rw [hW.frozen]; exact hWb.free _) hx1'
        have hcpB : ∀ (W : World), Same4 W (W1.setCells w.heap.size i [x]) → ∀ ty dc sc, (Builtin.copy_ #[67, 67] ty #[.slice (some ⟨w.heap.size, i + 1, none⟩) (c - i) dc, .slice (some ⟨g, i, none⟩) (c - i) sc]).run Try.prog W = .ok (goInt (xs.drop i).length) (W.setCells w.heap.size (i + 1) (xs.drop i)) := fun W hW ty dc sc =>
          run_copy_cells W _ _ ty 61 w.heap.size (i + 1) (c - i) dc ⟨g, i, none⟩ (c - i) sc (xs.drop i) Try.underlying67 hsz (by rw [hdl]; simp only [Nat.min_def]; split <;> omega)
            (fun j v hj => by
              rw [addr_add, hW.cell, World.cell?_setCells_out _ _ _ _ _ (fun h _ => by simp only at h; omega), hold2 g _ hbl]
              exact hcs (i + j) v (by rwa [List.getElem?_drop] at hj))
            (fun j hj => by
              rw [hdl] at hj
              rw [hW.cell]
              have hs : ∀ t, t < G → (W1.cell? ⟨w.heap.size, t, none⟩).isSome = true := fun t ht => by
                obtain ⟨v, hv⟩ : ∃ v, ROW.toList[t]? = some v := ⟨_, List.getElem?_eq_getElem (by simp; omega)⟩
                rw [hWb.cell hv]; rfl
              exact isSome_setCells _ _ i W1 (fun t ht => hs (i + t) (by simp at ht; omega)) (i + 1 + j) (hs (i + 1 + j) (by omega)))
            (fun j hj => by rw [hW.frozen, World.frozen?_setCells]; exact hWb.free _) (fun v hv => h1 v (List.mem_of_mem_drop hv))
        have HFIN : Hid (∀ W, Same4 W ((W1.setCells w.heap.size i [x]).setCells w.heap.size (i + 1) (xs.drop i)) → InsA 61 xs i x (.slice (some ⟨g, 0, none⟩) xs.length c) w (.returned (.slice (some ⟨w.heap.size, 0, none⟩) (c + 1) G)) W) := Lib.hid (fun W hW => by
          subst hn
          obtain ⟨c1, b1, l1, g1⟩ := Block.setCells [x] i W1 ROW.toList hWb
          obtain ⟨c2, b2, l2, g2⟩ := Block.setCells (xs.drop i) (i + 1) _ c1 b1
          have hl1 : c1.length = G := by rw [l1, Array.length_toList, hRl]
          refine ⟨w.heap.size, G, rfl, ?_, ?_, .inr ⟨_, rfl, Nat.le_refl _⟩⟩
          · have := Arr.mk (w := W) (xs := insAt xs i x) (cap := G) (b2.of_heap (by rw [hW.1])) (by rw [insAt_len x hi]; omega) (by omega) (by omega) (fun q hq => by
              rw [insAt_len x hi] at hq
              rw [g2, g1, l1, insAt_get x hi, List.length_drop]
              simp only [List.length_singleton, Array.length_toList, hRl, hl1]
              by_cases h1 : q < i
              · rw [if_neg (by omega), if_neg (by omega), if_pos h1, hRg q h1]
              · by_cases h2 : q = i
                · subst h2
                  rw [if_neg (by omega), if_pos (by omega), if_neg (by omega), if_pos rfl, Nat.sub_self]; rfl
                · rw [if_pos (by omega), if_neg h1, if_neg h2, List.getElem?_drop]
                  congr 1; omega)
            rw [insAt_len x hi] at this
            exact this
          · have hg : w.grownBy ((W1.setCells w.heap.size i [x]).setCells w.heap.size (i + 1) (xs.drop i)) (some g) := by
              refine setCells_grown (setCells_grown ?_ (.inr (Nat.le_refl _))) (.inr (Nat.le_refl _))
              rw [← hW1]
              exact ⟨rfl, rfl, rfl, by simp, fun k hk _ => Below.heap_alloc w.drew _ _ hk⟩
            exact ⟨hW.2.1.trans hg.os, hW.2.2.1.trans hg.tape, hW.2.2.2.trans hg.output, by rw [hW.1]; exact hg.size, fun k hk hn => by rw [hW.1]; exact hg.block k hk hn⟩)
        rw [hW1] at hrz
        have HW1 := Lib.hid hW1
        have hw1 : IntKind.i64.wrap ((i : Int) + 1) = (i : Int) + 1 := by rw [IntKind.wrap_i64]; omega
        have hz4 : ¬ ((i : Int) = (c : Int)) := by omega
        have hb1 : (0 : Int) ≤ (i : Int) + 1 := by omega
        have htn : ((i : Int) + 1).toNat = i + 1 := by omega
        have hb2 : ¬ (c = i + 1) ∨ True := .inr trivial
        have hb4 : ¬ (c = i) := by omega
        have hb5 : ¬ (G = i) := by omega
        have hb6 : ¬ (G = i + 1) := by omega
        have hz5 : (c : Int) < (c : Int) + 1 := by omega
        have hG64 : (G : Int) ≤ 9223372036854775807 := by unfold maxLen at hG63; omega
        have hik : i ≤ c := by omega
        rw [hn]
        rw [hn] at hlc hin hi h5
        rw [hn] at HFIN
        clear hn h4 h8 hget hcs hsome hx hxc hne h1 hx1 hx1' hW1 h5 h6 h7 hold hROW hRl hRg hWb hold2 hG hb2 hroom
        go_enter Try.func44, Try.ntmps44
        have hcA := hcpA W1 (Same4.refl _)
        have hcB := hcpB _ (Same4.refl _)
        have hcD := hcpB _ (Same4.refl _).drew
        clear hcpA hcpB
        go_wp2_with (at_builtin; refine Lib.wpList_append_run _ rfl _ _ _ _ rfl _ _ rfl rfl _ _ (hrz _ _ (by omega)) ?_)
        go_wp2_with fail
        go_region_law (refine step_copyR rfl _ _ 67 67 rfl _ _ (by simp [Act.eval, Act.put]) (by simp [Act.eval, Act.put]) (by first | exact hcD _ _ _ | exact hcB _ _ _) ?_)
        all_goals go_wp2_with fail
        all_goals go_ret
        all_goals exact HFIN.out _ (by first | exact Same4.refl _ | exact (Same4.refl _).drew | exact (((Same4.refl _).drew).setCells _ _ _) | exact (((Same4.refl _).drew).setCells _ _ _).drew)
  · obtain rfl : i = xs.length := by omega
    have HARR := Lib.hid h
    have HXC := Lib.hid hxc
    have HH1 := Lib.hid h1
    have HX1 := Lib.hid hx1'
    rw [hn] at HARR hlc ⊢
    clear h hxc h1 hx1' hx hne hca hi hin
    have hcc : (a = none ∧ c = 0 ∧ n = 0) ∨ (∃ g, a = some ⟨g, 0, none⟩) ∧ (n < c ∨ c = n) := by
      rcases HARR.out with ⟨h3, h4⟩ | ⟨g, cap, cur, h0, _⟩
      · injection h3 with e1 e2 e3; exact .inl ⟨e1, e3, e2⟩
      · injection h0 with e1 e2 e3; exact .inr ⟨⟨g, e1⟩, by omega⟩
    rcases hcc with ⟨rfl, rfl, rfl⟩ | ⟨⟨g0, rfl⟩, hcc | rfl⟩
    all_goals
     go_enter Try.func44, Try.ntmps44
     go_wp2_with (at_builtin; refine wpList_append_arr rfl _ _ 67 rfl Try.underlying67 hi0 hz0 hz1 hz2 hzs (by decide) _ _ _ xs rfl HARR.out HH1.out (some ⟨vb, 0, none⟩) 1 1 w.heap.size [x] rfl rfl HX1.out (fun h => by cases h) HXC.out (by have := HN.out; simp; omega) ?_)
     intro a' c' w' g1 g2 g3
     have HG1 := Lib.hid g1
     have HG2 := Lib.hid g2
     have HG3 := Lib.hid g3
     clear g1 g2 g3
     go_wp2_with fail
     go_ret
     have hs : ∃ g, a' = some ⟨g, 0, none⟩ := by
       rcases HG1.out with ⟨h3, h4⟩ | ⟨g, cap, cur, h0, _⟩
       · simp at h4
       · injection h0 with e1 _ _; exact ⟨g, e1⟩
     obtain ⟨g, rfl⟩ := hs
     exact ⟨g, c', by rw [HN.out]; rfl, by rw [insAt_end HN.out, HN.out]; exact HG1.out, HG2.out, by rw [HN.out]; exact HG3.out⟩
end Go.Proofs.Ytjoopjmcnkiieaa

/- slices.Delete of one element, slices.Clone, at texts, numbers and pointers. Conditions: at most 1000000 elements. -/
namespace Go.Proofs.Ytjoopjmcnkiieaa
open Go.RowKit Go.Lib
set_option linter.unusedSimpArgs false
set_option linter.unusedVariables false

theorem step_appendR {P : Program} {ops : Array Oper} {o : Oper} {a : Act} {w : World} {K : Act → World → Prop} {Q : Exit → Act → World → Prop} {E : Prop}
    (hg : o.guard = none) (d x : Operand) (dT sT : TypeId) (hop : o.op = Op.call { callee := Callee.builtin Builtin.append, args := #[d, x], argTypes := #[dT, sT] })
    (v u : Value) (hd : a.eval d = v) (hx : a.eval x = u) {v' : Value} {w' : World} (hr : (Builtin.append_ #[dT, sT] o.type #[v, u]).run P w = .ok v' w') (hK : K (a.put o.dst v') w') :
    if Region.wanted o (yielded ops a.tmps) = true then Oper.wp P o a w K Q else E := by
  have hw : Region.wanted o (yielded ops a.tmps) = true := by simp [Region.wanted, hg]
  rw [if_pos hw]
  unfold Oper.wp
  simp [execOp, hop, resolve, invoke, builtin, hd, hx, hr, Result.andThen]
  exact hK
def DelA (e : TypeId) (xs : List Value) (i : Nat) (g c : Nat) (w : World) (e0 : Ending) (w' : World) : Prop :=
  e0 = .returned (.slice (some ⟨g, 0, none⟩) (xs.length - 1) c) ∧ Arr w' e (.slice (some ⟨g, 0, none⟩) (xs.length - 1) c) (xs.eraseIdx i) ∧ w.grownBy w' (some g) ∧ w'.heap.size = w.heap.size
theorem erase_len {α : Type} {xs : List α} {i : Nat} (hi : i < xs.length) : (xs.eraseIdx i).length = xs.length - 1 := by rw [List.length_eraseIdx, if_pos hi]
theorem erase_get {α : Type} (xs : List α) (i q : Nat) : (xs.eraseIdx i)[q]? = if q < i then xs[q]? else xs[q + 1]? := by rw [List.getElem?_eraseIdx]
def ClnA (e : TypeId) (xs : List Value) (w : World) (e0 : Ending) (w' : World) : Prop :=
  ∃ a' c', e0 = .returned (.slice a' xs.length c') ∧ Arr w' e (.slice a' xs.length c') xs ∧ Below w.heap.size w w' ∧ ∀ k, (Value.slice a' xs.length c').ownBlock = some k → w.heap.size ≤ k

set_option maxRecDepth 100000 in
set_option maxHeartbeats 8000000 in
theorem delS_any (xs : List Value) (i : Nat) (g c : Nat) (w : World) (h : Arr w 9 (.slice (some ⟨g, 0, none⟩) xs.length c) xs) (h1 : ∀ u ∈ xs, u.oneCell' = true) (hi : i < xs.length) (hl : xs.length ≤ 1000000) (j : Int) (hj : j = (i : Int) + 1) :
    Calls Try.prog 52 #[.slice (some ⟨g, 0, none⟩) xs.length c, .int .i64 i, .int .i64 j] w (DelA 9 xs i g c w) := by
  subst hj
  obtain ⟨i0, hi0, hz0, hz1, hz2⟩ := info_parts Try.infoS
  rcases h with ⟨h3, h4⟩ | ⟨g', cap, cur, h0, h4, h5, h6, h7, h8⟩
  · cases h3
  injection h0 with e1 e2 e3
  injection e1 with e1
  injection e1 with e1 _
  subst e1 e3
  have hget : ∀ q, q < xs.length → cur[q]? = xs[q]? := fun q hq => Arr.get (w := w) (e := 9) (g := g) (cap := c) h8 hq
  have hcs : ∀ j v, xs[j]? = some v → w.cell? ⟨g, j, none⟩ = some v := fun j v hj => h4.cell (by rw [hget j (List.getElem?_eq_some_iff.1 hj).1]; exact hj)
  have hsome : ∀ j, j < c → (w.cell? ⟨g, j, none⟩).isSome = true := fun j hj => by
    obtain ⟨v, hv⟩ : ∃ v, cur[j]? = some v := ⟨_, List.getElem?_eq_getElem (by omega)⟩
    rw [h4.cell hv]; rfl
  obtain ⟨n, hn⟩ : ∃ n, xs.length = n := ⟨_, rfl⟩
  have HN := Lib.hid hn
  have hdl : (xs.drop (i + 1)).length = n - (i + 1) := by rw [List.length_drop, hn]
  obtain ⟨A, hA⟩ : ∃ A : Addr, (c = i + 1 ∧ A = ⟨g, 0, none⟩ ∨ ¬ c = i + 1 ∧ A = ⟨g, i + 1, none⟩) := by
    by_cases h : c = i + 1
    · exact ⟨_, .inl ⟨h, rfl⟩⟩
    · exact ⟨_, .inr ⟨h, rfl⟩⟩
  obtain ⟨W1, hW1⟩ : ∃ W1, w.drew.setCells g i (xs.drop (i + 1)) = W1 := ⟨_, rfl⟩
  have hap : ∀ ty cx, (Builtin.append_ #[27, 27] ty #[.slice (some ⟨g, 0, none⟩) i c, .slice (some A) (n - (i + 1)) cx]).run Try.prog w.drew = .ok (.slice (some ⟨g, 0, none⟩) (n - 1) c) W1 := fun ty cx => by
    have := run_append_room_cells (P := Try.prog) w.drew 27 ty 9 i0 Try.underlying27 hi0 g 0 i c A (n - (i + 1)) cx (xs.drop (i + 1)) (by rw [hz1, Nat.mul_one, hdl]) (fun j v hj => by
      rcases hA with ⟨h9, rfl⟩ | ⟨h9, rfl⟩
      · have := (List.getElem?_eq_some_iff.1 hj).1; omega
      · rw [addr_add]; exact hcs (i + 1 + j) v (by rwa [List.getElem?_drop] at hj)) (fun u hu => h1 u (List.mem_of_mem_drop hu)) (by omega) (fun j hj => by rw [hz1, Nat.mul_one, Nat.zero_add]; exact hsome _ (by omega)) (fun j hj => h4.free _)
    rw [hz1, Nat.mul_one, Nat.zero_add, hW1, show i + (n - (i + 1)) = n - 1 from by omega] at this
    exact this
  obtain ⟨c1, b1, l1, g1⟩ := Block.setCells (xs.drop (i + 1)) i w.drew cur h4
  rw [hW1] at b1
  have hcl : ∀ ty cc, (Builtin.clear_ #[27] ty #[.slice (some ⟨g, n - 1, none⟩) 1 cc]).run Try.prog W1 = .ok (.tuple #[]) (W1.setCells g (n - 1) [Value.string ⟨#[]⟩]) := fun ty cc =>
    Lib.run_clear_slice W1 27 9 ty (Value.string ⟨#[]⟩) Try.underlying27 (fun w => Try.zeroValue9 w) rfl rfl g (n - 1) 1 cc (by omega) (fun t ht => by
      obtain ⟨v, hv⟩ : ∃ v, c1[n - 1 + t]? = some v := ⟨_, List.getElem?_eq_getElem (by omega)⟩
      rw [b1.cell hv]; rfl) (fun t ht => b1.free _)
  have HFIN : Hid (DelA 9 xs i g c w (.returned (.slice (some ⟨g, 0, none⟩) (n - 1) c)) (W1.setCells g (n - 1) [Value.string ⟨#[]⟩])) := Lib.hid (by
    subst hn
    obtain ⟨c2, b2, l2, g2⟩ := Block.setCells [Value.string ⟨#[]⟩] (xs.length - 1) _ c1 b1
    refine ⟨rfl, ?_, ?_, ?_⟩
    · have := Arr.mk (xs := xs.eraseIdx i) (cap := c) b2 (by rw [erase_len hi]; omega) (by omega) (by omega) (fun q hq => by
        rw [erase_len hi] at hq
        rw [g2, g1, erase_get, List.length_drop]
        rw [if_neg (by omega)]
        by_cases h1 : q < i
        · rw [if_neg (by omega), if_pos h1, hget q (by omega)]
        · rw [if_pos (by omega), if_neg h1, List.getElem?_drop]
          congr 1; omega)
      rw [erase_len hi] at this
      exact this
    · refine setCells_grown ?_ (.inl rfl)
      rw [← hW1]
      exact setCells_grown ⟨rfl, rfl, rfl, Nat.le_refl _, fun _ _ _ => rfl⟩ (.inl rfl)
    · rw [setCells_size, ← hW1, setCells_size]; rfl)
  have hc63 : (c : Int) ≤ 9223372036854775807 := by unfold maxLen at h7; omega
  rw [hn]
  rw [hn] at hi h5 hl
  have hb1 : ¬ ((i : Int) = (i : Int) + 1) := by omega
  have hb2 : (0 : Int) ≤ (i : Int) + 1 := by omega
  have htn : ((i : Int) + 1).toNat = i + 1 := by omega
  have hb3 : (i : Int) + 1 ≤ (n : Int) := by omega
  have hb4 : i ≤ c := by omega
  have hb5 : ¬ (n = i) := by omega
  have hb6 : n - (n - 1) = 1 := by omega
  have hb8 : ¬ (c = n - 1) := by omega
  have hb7 : (i : Int) ≤ (i : Int) + 1 := by omega
  have hnn : ((n : Int) - 1) = ((n - 1 : Nat) : Int) := by omega
  clear h4 h8 hget hcs hsome h1 h6 h7 hW1 b1 l1 g1 hdl hn
  rcases hA with ⟨hci, rfl⟩ | ⟨hci, rfl⟩
  · have HCI := Lib.hid hci
    have hap1 := hap
    rw [hci] at hap1
    go_enter Try.func52, Try.ntmps52
    go_wp2_with fail
    go_region_law (refine step_appendR rfl _ _ 27 27 rfl (.slice (some ⟨g, 0, none⟩) i (i + 1)) (.slice (some ⟨g, 0, none⟩) (n - (i + 1)) 0) (by simp [Act.eval, Act.put]) (by simp [Act.eval, Act.put]) (hap1 _ _) ?_)
    go_wp2_with fail
    go_ret
    have := HFIN.out
    rw [HCI.out] at this ⊢
    exact this
  · go_enter Try.func52, Try.ntmps52
    go_wp2_with fail
    go_region_law (refine step_appendR rfl _ _ 27 27 rfl (.slice (some ⟨g, 0, none⟩) i c) (.slice (some ⟨g, i + 1, none⟩) (n - (i + 1)) (c - (i + 1))) (by simp [Act.eval, Act.put]) (by simp [Act.eval, Act.put]) (hap _ _) ?_)
    go_wp2_with fail
    go_ret
    exact HFIN.out

set_option maxRecDepth 100000 in
set_option maxHeartbeats 2000000 in
theorem clnS_any (w : World) (a : Option Addr) (n cap B : Nat) (xs : List Value) (hn : n = xs.length) (hc : Cells B w a xs) (h1 : ∀ u ∈ xs, u.oneCell' = true) (hnone : a = none → cap = 0) (hm : xs.length ≤ 1000000) :
    Calls Try.prog 45 #[.slice a n cap] w (ClnA 9 xs w) := by
  obtain ⟨i0, hi0, hz0, hz1, hz2⟩ := info_parts Try.infoS
  have hnil := fun (w : World) (a : Option Addr) (l c : Nat) => Lib.run_eql_slice_nil (P := Try.prog) w 27 9 a l c 0 0 Try.underlying27
  cases a with
  | none =>
    have hl : xs = [] := by
      rcases hc with h | ⟨b, off, h, _⟩
      · exact h
      · cases h
    subst hl
    obtain rfl := hnone rfl
    simp at hn; subst hn
    clear hc hnone
    go_enter Try.func45, Try.ntmps45
    go_wp2_with fail
    go_ret
    exact ⟨none, 0, rfl, Arr.nil, Below.refl _ _, fun k hk => by cases hk⟩
  | some ad =>
    subst hn
    have hown : (w.alloc (.cells #[] 9)).ownsRow w.heap.size 9 1 (.slice (some ⟨w.heap.size, 0, none⟩) 0 0) 0 [] := World.ownsRow_made w #[] 0 (Nat.le_refl _) (Nat.zero_le _) (by simp)
    have HC := Lib.hid hc
    have H1 := Lib.hid h1
    clear hc hnone h1
    go_enter Try.func45, Try.ntmps45
    go_wp2_with (at_builtin; refine wpList_append_rows rfl _ _ 27 rfl w.heap.size 9 i0 _ 1 16 Try.underlying27 hi0 hz0 hz1 hz2 rfl (by decide) _ 0 [] rfl hown _ xs.length cap B xs rfl (by intro h; cases h) (by simp) (HC.out.alloc' _) H1.out (by unfold maxLen; omega) (by omega) (by simp) ?_)
    intro a' cap' w' h1 h2 h3
    have HG1 := Lib.hid h1
    have HG2 := Lib.hid h2
    clear h1 h2 h3
    go_wp2_with fail
    go_ret
    have h1 : w'.ownsRow w.heap.size 9 1 (.slice a' xs.length cap') xs.length xs := by simpa using HG1.out
    exact ⟨a', cap', rfl, Arr.of_own h1, ((Below.refl _ _).alloc (Nat.le_refl _) _).grown HG2.out (by simp) (fun k hk => by simp [Value.ownBlock] at hk; omega), fun k hk => (h1.lt k hk).1⟩

set_option maxRecDepth 100000 in
set_option maxHeartbeats 8000000 in
theorem delI_any (xs : List Value) (i : Nat) (g c : Nat) (w : World) (h : Arr w 2 (.slice (some ⟨g, 0, none⟩) xs.length c) xs) (h1 : ∀ u ∈ xs, u.oneCell' = true) (hi : i < xs.length) (hl : xs.length ≤ 1000000) (j : Int) (hj : j = (i : Int) + 1) :
    Calls Try.prog 53 #[.slice (some ⟨g, 0, none⟩) xs.length c, .int .i64 i, .int .i64 j] w (DelA 2 xs i g c w) := by
  subst hj
  obtain ⟨i0, hi0, hz0, hz1, hz2⟩ := info_parts Try.infoI
  rcases h with ⟨h3, h4⟩ | ⟨g', cap, cur, h0, h4, h5, h6, h7, h8⟩
  · cases h3
  injection h0 with e1 e2 e3
  injection e1 with e1
  injection e1 with e1 _
  subst e1 e3
  have hget : ∀ q, q < xs.length → cur[q]? = xs[q]? := fun q hq => Arr.get (w := w) (e := 2) (g := g) (cap := c) h8 hq
  have hcs : ∀ j v, xs[j]? = some v → w.cell? ⟨g, j, none⟩ = some v := fun j v hj => h4.cell (by rw [hget j (List.getElem?_eq_some_iff.1 hj).1]; exact hj)
  have hsome : ∀ j, j < c → (w.cell? ⟨g, j, none⟩).isSome = true := fun j hj => by
    obtain ⟨v, hv⟩ : ∃ v, cur[j]? = some v := ⟨_, List.getElem?_eq_getElem (by omega)⟩
    rw [h4.cell hv]; rfl
  obtain ⟨n, hn⟩ : ∃ n, xs.length = n := ⟨_, rfl⟩
  have HN := Lib.hid hn
  have hdl : (xs.drop (i + 1)).length = n - (i + 1) := by rw [List.length_drop, hn]
  obtain ⟨A, hA⟩ : ∃ A : Addr, (c = i + 1 ∧ A = ⟨g, 0, none⟩ ∨ ¬ c = i + 1 ∧ A = ⟨g, i + 1, none⟩) := by
    by_cases h : c = i + 1
    · exact ⟨_, .inl ⟨h, rfl⟩⟩
    · exact ⟨_, .inr ⟨h, rfl⟩⟩
  obtain ⟨W1, hW1⟩ : ∃ W1, w.drew.setCells g i (xs.drop (i + 1)) = W1 := ⟨_, rfl⟩
  have hap : ∀ ty cx, (Builtin.append_ #[28, 28] ty #[.slice (some ⟨g, 0, none⟩) i c, .slice (some A) (n - (i + 1)) cx]).run Try.prog w.drew = .ok (.slice (some ⟨g, 0, none⟩) (n - 1) c) W1 := fun ty cx => by
    have := run_append_room_cells (P := Try.prog) w.drew 28 ty 2 i0 Try.underlying28 hi0 g 0 i c A (n - (i + 1)) cx (xs.drop (i + 1)) (by rw [hz1, Nat.mul_one, hdl]) (fun j v hj => by
      rcases hA with ⟨h9, rfl⟩ | ⟨h9, rfl⟩
      · have := (List.getElem?_eq_some_iff.1 hj).1; omega
      · rw [addr_add]; exact hcs (i + 1 + j) v (by rwa [List.getElem?_drop] at hj)) (fun u hu => h1 u (List.mem_of_mem_drop hu)) (by omega) (fun j hj => by rw [hz1, Nat.mul_one, Nat.zero_add]; exact hsome _ (by omega)) (fun j hj => h4.free _)
    rw [hz1, Nat.mul_one, Nat.zero_add, hW1, show i + (n - (i + 1)) = n - 1 from by omega] at this
    exact this
  obtain ⟨c1, b1, l1, g1⟩ := Block.setCells (xs.drop (i + 1)) i w.drew cur h4
  rw [hW1] at b1
  have hcl : ∀ ty cc, (Builtin.clear_ #[28] ty #[.slice (some ⟨g, n - 1, none⟩) 1 cc]).run Try.prog W1 = .ok (.tuple #[]) (W1.setCells g (n - 1) [Value.int .i64 0]) := fun ty cc =>
    Lib.run_clear_slice W1 28 2 ty (Value.int .i64 0) Try.underlying28 (fun w => Try.zeroValue2 w) rfl rfl g (n - 1) 1 cc (by omega) (fun t ht => by
      obtain ⟨v, hv⟩ : ∃ v, c1[n - 1 + t]? = some v := ⟨_, List.getElem?_eq_getElem (by omega)⟩
      rw [b1.cell hv]; rfl) (fun t ht => b1.free _)
  have HFIN : Hid (DelA 2 xs i g c w (.returned (.slice (some ⟨g, 0, none⟩) (n - 1) c)) (W1.setCells g (n - 1) [Value.int .i64 0])) := Lib.hid (by
    subst hn
    obtain ⟨c2, b2, l2, g2⟩ := Block.setCells [Value.int .i64 0] (xs.length - 1) _ c1 b1
    refine ⟨rfl, ?_, ?_, ?_⟩
    · have := Arr.mk (xs := xs.eraseIdx i) (cap := c) b2 (by rw [erase_len hi]; omega) (by omega) (by omega) (fun q hq => by
        rw [erase_len hi] at hq
        rw [g2, g1, erase_get, List.length_drop]
        rw [if_neg (by omega)]
        by_cases h1 : q < i
        · rw [if_neg (by omega), if_pos h1, hget q (by omega)]
        · rw [if_pos (by omega), if_neg h1, List.getElem?_drop]
          congr 1; omega)
      rw [erase_len hi] at this
      exact this
    · refine setCells_grown ?_ (.inl rfl)
      rw [← hW1]
      exact setCells_grown ⟨rfl, rfl, rfl, Nat.le_refl _, fun _ _ _ => rfl⟩ (.inl rfl)
    · rw [setCells_size, ← hW1, setCells_size]; rfl)
  have hc63 : (c : Int) ≤ 9223372036854775807 := by unfold maxLen at h7; omega
  rw [hn]
  rw [hn] at hi h5 hl
  have hb1 : ¬ ((i : Int) = (i : Int) + 1) := by omega
  have hb2 : (0 : Int) ≤ (i : Int) + 1 := by omega
  have htn : ((i : Int) + 1).toNat = i + 1 := by omega
  have hb3 : (i : Int) + 1 ≤ (n : Int) := by omega
  have hb4 : i ≤ c := by omega
  have hb5 : ¬ (n = i) := by omega
  have hb6 : n - (n - 1) = 1 := by omega
  have hb8 : ¬ (c = n - 1) := by omega
  have hb7 : (i : Int) ≤ (i : Int) + 1 := by omega
  have hnn : ((n : Int) - 1) = ((n - 1 : Nat) : Int) := by omega
  clear h4 h8 hget hcs hsome h1 h6 h7 hW1 b1 l1 g1 hdl hn
  rcases hA with ⟨hci, rfl⟩ | ⟨hci, rfl⟩
  · have HCI := Lib.hid hci
    have hap1 := hap
    rw [hci] at hap1
    go_enter Try.func53, Try.ntmps53
    go_wp2_with fail
    go_region_law (refine step_appendR rfl _ _ 28 28 rfl (.slice (some ⟨g, 0, none⟩) i (i + 1)) (.slice (some ⟨g, 0, none⟩) (n - (i + 1)) 0) (by simp [Act.eval, Act.put]) (by simp [Act.eval, Act.put]) (hap1 _ _) ?_)
    go_wp2_with fail
    go_ret
    have := HFIN.out
    rw [HCI.out] at this ⊢
    exact this
  · go_enter Try.func53, Try.ntmps53
    go_wp2_with fail
    go_region_law (refine step_appendR rfl _ _ 28 28 rfl (.slice (some ⟨g, 0, none⟩) i c) (.slice (some ⟨g, i + 1, none⟩) (n - (i + 1)) (c - (i + 1))) (by simp [Act.eval, Act.put]) (by simp [Act.eval, Act.put]) (hap _ _) ?_)
    go_wp2_with fail
    go_ret
    exact HFIN.out

set_option maxRecDepth 100000 in
set_option maxHeartbeats 2000000 in
theorem clnI_any (w : World) (a : Option Addr) (n cap B : Nat) (xs : List Value) (hn : n = xs.length) (hc : Cells B w a xs) (h1 : ∀ u ∈ xs, u.oneCell' = true) (hnone : a = none → cap = 0) (hm : xs.length ≤ 1000000) :
    Calls Try.prog 46 #[.slice a n cap] w (ClnA 2 xs w) := by
  obtain ⟨i0, hi0, hz0, hz1, hz2⟩ := info_parts Try.infoI
  have hnil := fun (w : World) (a : Option Addr) (l c : Nat) => Lib.run_eql_slice_nil (P := Try.prog) w 28 2 a l c 0 0 Try.underlying28
  cases a with
  | none =>
    have hl : xs = [] := by
      rcases hc with h | ⟨b, off, h, _⟩
      · exact h
      · cases h
    subst hl
    obtain rfl := hnone rfl
    simp at hn; subst hn
    clear hc hnone
    go_enter Try.func46, Try.ntmps46
    go_wp2_with fail
    go_ret
    exact ⟨none, 0, rfl, Arr.nil, Below.refl _ _, fun k hk => by cases hk⟩
  | some ad =>
    subst hn
    have hown : (w.alloc (.cells #[] 2)).ownsRow w.heap.size 2 1 (.slice (some ⟨w.heap.size, 0, none⟩) 0 0) 0 [] := World.ownsRow_made w #[] 0 (Nat.le_refl _) (Nat.zero_le _) (by simp)
    have HC := Lib.hid hc
    have H1 := Lib.hid h1
    clear hc hnone h1
    go_enter Try.func46, Try.ntmps46
    go_wp2_with (at_builtin; refine wpList_append_rows rfl _ _ 28 rfl w.heap.size 2 i0 _ 1 8 Try.underlying28 hi0 hz0 hz1 hz2 rfl (by decide) _ 0 [] rfl hown _ xs.length cap B xs rfl (by intro h; cases h) (by simp) (HC.out.alloc' _) H1.out (by unfold maxLen; omega) (by omega) (by simp) ?_)
    intro a' cap' w' h1 h2 h3
    have HG1 := Lib.hid h1
    have HG2 := Lib.hid h2
    clear h1 h2 h3
    go_wp2_with fail
    go_ret
    have h1 : w'.ownsRow w.heap.size 2 1 (.slice a' xs.length cap') xs.length xs := by simpa using HG1.out
    exact ⟨a', cap', rfl, Arr.of_own h1, ((Below.refl _ _).alloc (Nat.le_refl _) _).grown HG2.out (by simp) (fun k hk => by simp [Value.ownBlock] at hk; omega), fun k hk => (h1.lt k hk).1⟩

set_option maxRecDepth 100000 in
set_option maxHeartbeats 8000000 in
theorem delP_any (xs : List Value) (i : Nat) (g c : Nat) (w : World) (h : Arr w 61 (.slice (some ⟨g, 0, none⟩) xs.length c) xs) (h1 : ∀ u ∈ xs, u.oneCell' = true) (hi : i < xs.length) (hl : xs.length ≤ 1000000) (j : Int) (hj : j = (i : Int) + 1) :
    Calls Try.prog 67 #[.slice (some ⟨g, 0, none⟩) xs.length c, .int .i64 i, .int .i64 j] w (DelA 61 xs i g c w) := by
  subst hj
  obtain ⟨i0, hi0, hz0, hz1, hz2⟩ := info_parts Try.infoP
  rcases h with ⟨h3, h4⟩ | ⟨g', cap, cur, h0, h4, h5, h6, h7, h8⟩
  · cases h3
  injection h0 with e1 e2 e3
  injection e1 with e1
  injection e1 with e1 _
  subst e1 e3
  have hget : ∀ q, q < xs.length → cur[q]? = xs[q]? := fun q hq => Arr.get (w := w) (e := 61) (g := g) (cap := c) h8 hq
  have hcs : ∀ j v, xs[j]? = some v → w.cell? ⟨g, j, none⟩ = some v := fun j v hj => h4.cell (by rw [hget j (List.getElem?_eq_some_iff.1 hj).1]; exact hj)
  have hsome : ∀ j, j < c → (w.cell? ⟨g, j, none⟩).isSome = true := fun j hj => by
    obtain ⟨v, hv⟩ : ∃ v, cur[j]? = some v := ⟨_, List.getElem?_eq_getElem (by omega)⟩
    rw [h4.cell hv]; rfl
  obtain ⟨n, hn⟩ : ∃ n, xs.length = n := ⟨_, rfl⟩
  have HN := Lib.hid hn
  have hdl : (xs.drop (i + 1)).length = n - (i + 1) := by rw [List.length_drop, hn]
  obtain ⟨A, hA⟩ : ∃ A : Addr, (c = i + 1 ∧ A = ⟨g, 0, none⟩ ∨ ¬ c = i + 1 ∧ A = ⟨g, i + 1, none⟩) := by
    by_cases h : c = i + 1
    · exact ⟨_, .inl ⟨h, rfl⟩⟩
    · exact ⟨_, .inr ⟨h, rfl⟩⟩
  obtain ⟨W1, hW1⟩ : ∃ W1, w.drew.setCells g i (xs.drop (i + 1)) = W1 := ⟨_, rfl⟩
  have hap : ∀ ty cx, (Builtin.append_ #[67, 67] ty #[.slice (some ⟨g, 0, none⟩) i c, .slice (some A) (n - (i + 1)) cx]).run Try.prog w.drew = .ok (.slice (some ⟨g, 0, none⟩) (n - 1) c) W1 := fun ty cx => by
    have := run_append_room_cells (P := Try.prog) w.drew 67 ty 61 i0 Try.underlying67 hi0 g 0 i c A (n - (i + 1)) cx (xs.drop (i + 1)) (by rw [hz1, Nat.mul_one, hdl]) (fun j v hj => by
      rcases hA with ⟨h9, rfl⟩ | ⟨h9, rfl⟩
      · have := (List.getElem?_eq_some_iff.1 hj).1; omega
      · rw [addr_add]; exact hcs (i + 1 + j) v (by rwa [List.getElem?_drop] at hj)) (fun u hu => h1 u (List.mem_of_mem_drop hu)) (by omega) (fun j hj => by rw [hz1, Nat.mul_one, Nat.zero_add]; exact hsome _ (by omega)) (fun j hj => h4.free _)
    rw [hz1, Nat.mul_one, Nat.zero_add, hW1, show i + (n - (i + 1)) = n - 1 from by omega] at this
    exact this
  obtain ⟨c1, b1, l1, g1⟩ := Block.setCells (xs.drop (i + 1)) i w.drew cur h4
  rw [hW1] at b1
  have hcl : ∀ ty cc, (Builtin.clear_ #[67] ty #[.slice (some ⟨g, n - 1, none⟩) 1 cc]).run Try.prog W1 = .ok (.tuple #[]) (W1.setCells g (n - 1) [Value.pointer none]) := fun ty cc =>
    Lib.run_clear_slice W1 67 61 ty (Value.pointer none) Try.underlying67 (fun w => Try.zeroValue61 w) rfl rfl g (n - 1) 1 cc (by omega) (fun t ht => by
      obtain ⟨v, hv⟩ : ∃ v, c1[n - 1 + t]? = some v := ⟨_, List.getElem?_eq_getElem (by omega)⟩
      rw [b1.cell hv]; rfl) (fun t ht => b1.free _)
  have HFIN : Hid (DelA 61 xs i g c w (.returned (.slice (some ⟨g, 0, none⟩) (n - 1) c)) (W1.setCells g (n - 1) [Value.pointer none])) := Lib.hid (by
    subst hn
    obtain ⟨c2, b2, l2, g2⟩ := Block.setCells [Value.pointer none] (xs.length - 1) _ c1 b1
    refine ⟨rfl, ?_, ?_, ?_⟩
    · have := Arr.mk (xs := xs.eraseIdx i) (cap := c) b2 (by rw [erase_len hi]; omega) (by omega) (by omega) (fun q hq => by
        rw [erase_len hi] at hq
        rw [g2, g1, erase_get, List.length_drop]
        rw [if_neg (by omega)]
        by_cases h1 : q < i
        · rw [if_neg (by omega), if_pos h1, hget q (by omega)]
        · rw [if_pos (by omega), if_neg h1, List.getElem?_drop]
          congr 1; omega)
      rw [erase_len hi] at this
      exact this
    · refine setCells_grown ?_ (.inl rfl)
      rw [← hW1]
      exact setCells_grown ⟨rfl, rfl, rfl, Nat.le_refl _, fun _ _ _ => rfl⟩ (.inl rfl)
    · rw [setCells_size, ← hW1, setCells_size]; rfl)
  have hc63 : (c : Int) ≤ 9223372036854775807 := by unfold maxLen at h7; omega
  rw [hn]
  rw [hn] at hi h5 hl
  have hb1 : ¬ ((i : Int) = (i : Int) + 1) := by omega
  have hb2 : (0 : Int) ≤ (i : Int) + 1 := by omega
  have htn : ((i : Int) + 1).toNat = i + 1 := by omega
  have hb3 : (i : Int) + 1 ≤ (n : Int) := by omega
  have hb4 : i ≤ c := by omega
  have hb5 : ¬ (n = i) := by omega
  have hb6 : n - (n - 1) = 1 := by omega
  have hb8 : ¬ (c = n - 1) := by omega
  have hb7 : (i : Int) ≤ (i : Int) + 1 := by omega
  have hnn : ((n : Int) - 1) = ((n - 1 : Nat) : Int) := by omega
  clear h4 h8 hget hcs hsome h1 h6 h7 hW1 b1 l1 g1 hdl hn
  rcases hA with ⟨hci, rfl⟩ | ⟨hci, rfl⟩
  · have HCI := Lib.hid hci
    have hap1 := hap
    rw [hci] at hap1
    go_enter Try.func67, Try.ntmps67
    go_wp2_with fail
    go_region_law (refine step_appendR rfl _ _ 67 67 rfl (.slice (some ⟨g, 0, none⟩) i (i + 1)) (.slice (some ⟨g, 0, none⟩) (n - (i + 1)) 0) (by simp [Act.eval, Act.put]) (by simp [Act.eval, Act.put]) (hap1 _ _) ?_)
    go_wp2_with fail
    go_ret
    have := HFIN.out
    rw [HCI.out] at this ⊢
    exact this
  · go_enter Try.func67, Try.ntmps67
    go_wp2_with fail
    go_region_law (refine step_appendR rfl _ _ 67 67 rfl (.slice (some ⟨g, 0, none⟩) i c) (.slice (some ⟨g, i + 1, none⟩) (n - (i + 1)) (c - (i + 1))) (by simp [Act.eval, Act.put]) (by simp [Act.eval, Act.put]) (hap _ _) ?_)
    go_wp2_with fail
    go_ret
    exact HFIN.out

set_option maxRecDepth 100000 in
set_option maxHeartbeats 2000000 in
theorem clnP_any (w : World) (a : Option Addr) (n cap B : Nat) (xs : List Value) (hn : n = xs.length) (hc : Cells B w a xs) (h1 : ∀ u ∈ xs, u.oneCell' = true) (hnone : a = none → cap = 0) (hm : xs.length ≤ 1000000) :
    Calls Try.prog 47 #[.slice a n cap] w (ClnA 61 xs w) := by
  obtain ⟨i0, hi0, hz0, hz1, hz2⟩ := info_parts Try.infoP
  have hnil := fun (w : World) (a : Option Addr) (l c : Nat) => Lib.run_eql_slice_nil (P := Try.prog) w 67 61 a l c 0 0 Try.underlying67
  cases a with
  | none =>
    have hl : xs = [] := by
      rcases hc with h | ⟨b, off, h, _⟩
      · exact h
      · cases h
    subst hl
    obtain rfl := hnone rfl
    simp at hn; subst hn
    clear hc hnone
    go_enter Try.func47, Try.ntmps47
    go_wp2_with fail
    go_ret
    exact ⟨none, 0, rfl, Arr.nil, Below.refl _ _, fun k hk => by cases hk⟩
  | some ad =>
    subst hn
    have hown : (w.alloc (.cells #[] 61)).ownsRow w.heap.size 61 1 (.slice (some ⟨w.heap.size, 0, none⟩) 0 0) 0 [] := World.ownsRow_made w #[] 0 (Nat.le_refl _) (Nat.zero_le _) (by simp)
    have HC := Lib.hid hc
    have H1 := Lib.hid h1
    clear hc hnone h1
    go_enter Try.func47, Try.ntmps47
    go_wp2_with (at_builtin; refine wpList_append_rows rfl _ _ 67 rfl w.heap.size 61 i0 _ 1 8 Try.underlying67 hi0 hz0 hz1 hz2 rfl (by decide) _ 0 [] rfl hown _ xs.length cap B xs rfl (by intro h; cases h) (by simp) (HC.out.alloc' _) H1.out (by unfold maxLen; omega) (by omega) (by simp) ?_)
    intro a' cap' w' h1 h2 h3
    have HG1 := Lib.hid h1
    have HG2 := Lib.hid h2
    clear h1 h2 h3
    go_wp2_with fail
    go_ret
    have h1 : w'.ownsRow w.heap.size 61 1 (.slice a' xs.length cap') xs.length xs := by simpa using HG1.out
    exact ⟨a', cap', rfl, Arr.of_own h1, ((Below.refl _ _).alloc (Nat.le_refl _) _).grown HG2.out (by simp) (fun k hk => by simp [Value.ownBlock] at hk; omega), fun k hk => (h1.lt k hk).1⟩
end Go.Proofs.Ytjoopjmcnkiieaa

/- A region that draws its order, whose callees make memory and change nothing that was there: walked once, in the order of the text. Conditions: none. -/
namespace Go.Proofs.Ytjoopjmcnkiieaa
open Go.RowKit

/-- The worlds that are as w below block B. -/
def Ext (B : Nat) (w : World) : Type := { w' : World // Below B w w' }
instance Ext.ne {B : Nat} {w : World} : Nonempty (Ext B w) := ⟨⟨w, Below.refl _ _⟩⟩
def Ext.w {B : Nat} {w : World} (u : Ext B w) : World := u.1
theorem Ext.below {B : Nat} {w : World} (u : Ext B w) : Below B w u.w := u.2
theorem Ext.cell {B : Nat} {w : World} (u : Ext B w) {a : Addr} {v : Value} (ha : a.block < B) (h : w.cell? a = some v) : u.w.cell? a = some v := by rw [u.below.cell ha]; exact h
theorem ext_call {P : Program} {B : Nat} {w : World} {f : FuncId} {args : Array Value} {v : Value} (u : Ext B w) (hB : B ≤ w.heap.size) (h : Calls P f args u.w fun e w' => e = .returned v ∧ Below u.w.heap.size u.w w') :
    Calls P f args u.w fun e w'' => e = .returned v ∧ ∃ u' : Ext B w, w'' = u'.w :=
  h.mono fun _ w'' ⟨he, hb⟩ => ⟨he, ⟨w'', u.below.trans (hb.mono (Nat.le_trans hB u.below.size))⟩, rfl⟩
theorem wp_region_ext {P : Program} {id : Nat} {Q : Exit → Act → World → Prop} {a : Act} {w : World} {l : List Oper} (B : Nat) (hm : P.follows .mixedOrders = true) (hB : Region.lexB .any l.toArray = true)
    (h : wpQuiet P l.toArray (fun w' => ∃ u : Ext B w, w' = u.w) (fun a' => ∀ w', (∃ u : Ext B w, w' = u.w) → Q .normal a' w') l a) : (Code.region id l.toArray true).wp P Q a w :=
  wp_region_quiet (C := fun w' => ∃ u : Ext B w, w' = u.w) hm hB ⟨⟨w.drew, (Below.refl _ _).drew⟩, rfl⟩ (by simpa using h)
end Go.Proofs.Ytjoopjmcnkiieaa

/- Rows of texts in memory, the order of texts, and slices.BinarySearch of texts. Conditions: none. -/
namespace Go.Proofs.Ytjoopjmcnkiieaa
open Go.RowKit Go.Sort
set_option linter.unusedSimpArgs false
set_option linter.unusedVariables false

/-- A row of texts. -/
def StrRow (B : Nat) (w : World) (a : Option Addr) (ks : List ByteArray) : Prop := Cells B w a (ks.map Value.string)
theorem get_some {α : Type} {l : List α} {j : Nat} (h : j < l.length) : ∃ x, l[j]? = some x := ⟨l[j], List.getElem?_eq_getElem h⟩

theorem ba_list (s : ByteArray) : s.toList = s.data.toList := by
  have h0 : ∀ l : List UInt8, (ByteArray.mk l.toArray).toList = l := fun l => by simp
  have h := h0 s.data.toList
  rwa [show (⟨s.data.toList.toArray⟩ : ByteArray) = s from by apply ByteArray.ext; simp] at h
theorem ba_beq (x y : ByteArray) : (x.toList == y.toList) = decide (x = y) := by
  rw [ba_list, ba_list, Bool.eq_iff_iff, beq_iff_eq, decide_eq_true_eq]
  constructor
  · intro h; apply ByteArray.ext; exact Array.ext' h
  · rintro rfl; rfl
theorem StrRow.get {B : Nat} {w : World} {a : Option Addr} {ks : List ByteArray} (h : StrRow B w a ks) {j : Nat} {x : ByteArray} (hx : ks[j]? = some x) : ∃ b off, a = some ⟨b, off, none⟩ ∧ b < B ∧ w.cell? ⟨b, off + j, none⟩ = some (.string x) := by
  rcases h with h0 | ⟨b, off, h1, h2, h3⟩
  · rw [List.map_eq_nil_iff] at h0; rw [h0] at hx; simp at hx
  · exact ⟨b, off, h1, h2, h3 j _ (by rw [List.getElem?_map, hx]; rfl)⟩

theorem bl_tri : ∀ x y : List UInt8, (Op.bytesLess x y = true ∧ Op.bytesLess y x = false ∧ x ≠ y) ∨ (x = y ∧ Op.bytesLess x y = false ∧ Op.bytesLess y x = false) ∨ (Op.bytesLess y x = true ∧ Op.bytesLess x y = false ∧ x ≠ y)
  | [], [] => .inr (.inl ⟨rfl, rfl, rfl⟩)
  | [], b :: y => .inl ⟨rfl, rfl, by simp⟩
  | a :: x, [] => .inr (.inr ⟨rfl, rfl, by simp⟩)
  | a :: x, b :: y => by
    have hs : ∀ (c d : UInt8) u v, Op.bytesLess (c :: u) (d :: v) = (decide (c < d) || (c == d && Op.bytesLess u v)) := fun _ _ _ _ => rfl
    rw [hs, hs]
    by_cases h1 : a < b
    · have h2 : ¬ b < a := by rw [UInt8.lt_iff_toNat_lt] at h1 ⊢; omega
      have h3 : a ≠ b := by intro e; subst e; exact h2 h1
      have h4 : (b == a) = false := beq_eq_false_iff_ne.2 (Ne.symm h3)
      exact .inl ⟨by simp [h1], by simp [h2, h4], fun e => h3 (List.cons.inj e).1⟩
    · by_cases h2 : b < a
      · have h3 : a ≠ b := by intro e; subst e; exact h1 h2
        have h4 : (a == b) = false := beq_eq_false_iff_ne.2 h3
        exact .inr (.inr ⟨by simp [h2], by simp [h1, h4], fun e => h3 (List.cons.inj e).1⟩)
      · have h3 : a = b := by rw [UInt8.lt_iff_toNat_lt] at h1 h2; exact UInt8.toNat_inj.1 (by omega)
        subst h3
        rcases bl_tri x y with ⟨p, q, r⟩ | ⟨p, q, r⟩ | ⟨p, q, r⟩
        · exact .inl ⟨by simp [p], by simp [h1, q], fun e => r (List.cons.inj e).2⟩
        · exact .inr (.inl ⟨by rw [p], by simp [h1, q], by simp [h1, r]⟩)
        · exact .inr (.inr ⟨by simp [p], by simp [h1, q], fun e => r (List.cons.inj e).2⟩)

def ltS (x y : ByteArray) : Bool := Op.bytesLess x.toList y.toList
theorem bl_trans : ∀ x y z : List UInt8, Op.bytesLess x y = true → Op.bytesLess y z = true → Op.bytesLess x z = true
  | [], y, [], _, h => by cases y <;> simp [Op.bytesLess] at h
  | [], y, c :: z, _, _ => rfl
  | a :: x, [], z, h, _ => by simp [Op.bytesLess] at h
  | a :: x, b :: y, [], _, h => by simp [Op.bytesLess] at h
  | a :: x, b :: y, c :: z, h1, h2 => by
    have hs : ∀ (c d : UInt8) u v, Op.bytesLess (c :: u) (d :: v) = (decide (c < d) || (c == d && Op.bytesLess u v)) := fun _ _ _ _ => rfl
    rw [hs] at h1 h2 ⊢
    simp only [Bool.or_eq_true, Bool.and_eq_true, decide_eq_true_eq, beq_iff_eq] at h1 h2 ⊢
    rcases h1 with h1 | ⟨rfl, h1⟩
    · rcases h2 with h2 | ⟨rfl, h2⟩
      · exact .inl (by rw [UInt8.lt_iff_toNat_lt] at *; omega)
      · exact .inl h1
    · rcases h2 with h2 | ⟨rfl, h2⟩
      · exact .inl h2
      · exact .inr ⟨rfl, bl_trans x y z h1 h2⟩
theorem swo_at {α : Type} (f : α → ByteArray) : SWO (fun i j => ltS (f i) (f j)) where
  irrefl x := by rcases bl_tri (f x).toList (f x).toList with ⟨h, h', _⟩ | ⟨_, h, _⟩ | ⟨h, h', _⟩ <;> (unfold ltS; simp_all)
  trans x y z h1 h2 := bl_trans _ _ _ h1 h2
  ntrans x y z h1 h2 := by
    unfold ltS at *
    rcases bl_tri (f x).toList (f y).toList with ⟨h, _⟩ | ⟨h, _⟩ | ⟨h, _⟩
    · rw [h] at h1; cases h1
    · rw [h]; exact h2
    · rcases bl_tri (f y).toList (f z).toList with ⟨k, _⟩ | ⟨k, _⟩ | ⟨k, _⟩
      · rw [k] at h2; cases h2
      · rw [← k]; exact h1
      · have h3 := bl_trans _ _ _ k h
        rcases bl_tri (f x).toList (f z).toList with ⟨g, g2, _⟩ | ⟨_, g, _⟩ | ⟨_, g, _⟩
        · rw [h3] at g2; cases g2
        · exact g
        · exact g

theorem nanS_any (a : ByteArray) (w : World) : Calls Try.prog 61 #[.string a] w fun e w' => e = .returned (.bool false) ∧ w = w' := by
  go_enter Try.func61, Try.ntmps61
  go_wp2_with fail
  go_ret
  exact ⟨by simp, rfl⟩

theorem nanSl_any (a : ByteArray) (w : World) : Calls Try.prog 51 #[.string a] w fun e w' => e = .returned (.bool false) ∧ w = w' := by
  go_enter Try.func51, Try.ntmps51
  go_wp2_with fail
  go_ret
  exact ⟨by simp, rfl⟩
theorem lessS_any (a b : ByteArray) (w : World) : Calls Try.prog 50 #[.string a, .string b] w fun e w' => e = .returned (.bool (ltS a b)) ∧ w = w' := by
  have H1 := Lib.hid (nanS_any a w)
  have H2 := Lib.hid (nanS_any b w)
  go_enter Try.func50, Try.ntmps50
  go_wp2_with fail
  refine H1.out.mono ?_
  rintro e w1 ⟨rfl, rfl⟩
  go_wp2_with fail
  go_ret
  exact ⟨by rfl, rfl⟩
/-- Each text is less than those behind it. -/
def SortedS (ks : List ByteArray) : Prop := ∀ (i j : Nat) x y, i < j → ks[i]? = some x → ks[j]? = some y → ltS x y = true
def FoundP (ks : List ByteArray) (key : ByteArray) (w : World) (e : Ending) (w' : World) : Prop :=
  w = w' ∧ ∃ r : Nat, e = .returned (.tuple #[.int .i64 r, .bool (decide (ks[r]? = some key))]) ∧ r ≤ ks.length ∧ (∀ (i : Nat) x, i < r → ks[i]? = some x → ltS x key = true) ∧ (∀ (i : Nat) x, r ≤ i → ks[i]? = some x → ltS x key = false)
set_option maxRecDepth 100000 in
set_option maxHeartbeats 2000000 in
theorem bsearch_any (ks : List ByteArray) (key : ByteArray) (ka : Option Addr) (kc B : Nat) (w : World) (hK : StrRow B w ka ks) (hl : ks.length ≤ 1099511627776) (hs : SortedS ks) :
    Calls Try.prog 40 #[.slice ka ks.length kc, .string key] w (FoundP ks key w) := by
  obtain ⟨n, hn⟩ : ∃ n, ks.length = n := ⟨_, rfl⟩
  rw [hn] at hl ⊢
  have HN := Lib.hid hn
  have HK := Lib.hid hK
  have HS := Lib.hid hs
  clear hn hK hs
  go_enter Try.func40, Try.ntmps40
  go_wp2_with fail
  go_loop [7, 8] (fun lv hv => ∃ (lo hi : Nat), lv = .int .i64 lo ∧ hv = .int .i64 hi ∧ lo ≤ hi ∧ hi ≤ n ∧ Hid (∀ (i : Nat) x, i < lo → ks[i]? = some x → ltS x key = true) ∧ Hid (∀ (i : Nat) x, hi ≤ i → ks[i]? = some x → ltS x key = false)) (fun lv hv => (intOf hv).toNat - (intOf lv).toNat)
  case atStart => exact ⟨0, n, rfl, rfl, Nat.zero_le _, Nat.le_refl _, Lib.hid (fun _ _ h => absurd h (Nat.not_lt_zero _)), Lib.hid (fun i x h hx => by have := (List.getElem?_eq_some_iff.1 hx).1; have := HN.out; omega)⟩
  case round =>
    obtain ⟨lo, hi, rfl, rfl, hlo, hhi, HLT, HGE⟩ := hrel
    by_cases hlt : lo < hi
    · have hlt' : (lo : Int) < hi := by omega
      obtain ⟨m, hm⟩ : ∃ m, (lo + hi) / 2 = m := ⟨_, rfl⟩
      have hmn : m < n := by omega
      have hmI : ((lo : Int) + hi) / 2 = m := by omega
      obtain ⟨x, hx⟩ : ∃ x, ks[m]? = some x := get_some (by have := HN.out; omega)
      obtain ⟨b, off, rfl, hb, hc⟩ := HK.out.get hx
      have HX := Lib.hid hx
      clear hx
      have HC := Lib.hid (lessS_any x key w)
      go_wp2_with fail
      refine HC.out.mono ?_
      rintro e w1 ⟨rfl, rfl⟩
      cases hb2 : ltS x key with
      | true =>
        have HLS := Lib.hid hb2
        clear hb2
        go_wp2_with fail
        go_round
        case rel =>
          refine ⟨m + 1, hi, by go_num, rfl, by omega, by omega, Lib.hid (fun i y hi2 hy => ?_), HGE⟩
          by_cases him : i = m
          · subst him
            rw [HX.out] at hy
            cases hy
            exact HLS.out
          · exact bl_trans _ _ _ (HS.out i m y x (by omega) hy HX.out) HLS.out
        case measure => simp [intOf]; omega
      | false =>
        have HLS := Lib.hid hb2
        clear hb2
        go_wp2_with fail
        go_round
        case rel =>
          refine ⟨lo, m, rfl, rfl, by omega, by omega, HLT, Lib.hid (fun i y hi2 hy => ?_)⟩
          by_cases him : i = m
          · subst him
            rw [HX.out] at hy
            cases hy
            exact HLS.out
          · exact (swo_at (fun z : ByteArray => z)).ntrans y x key (by
              rcases bl_tri x.toList y.toList with ⟨_, h, _⟩ | ⟨_, _, h⟩ | ⟨h, h', _⟩
              · exact h
              · exact h
              · have := HS.out m i x y (by omega) HX.out hy
                unfold ltS at this
                rw [h'] at this
                cases this) HLS.out
        case measure => simp [intOf]; omega
    · have hlt' : ¬ (lo : Int) < hi := by omega
      have hlh : lo = hi := by omega
      have HFP : ∀ ok : Bool, decide (ks[lo]? = some key) = ok → FoundP ks key w (.returned (.tuple #[.int .i64 lo, .bool ok])) w := fun ok hok => ⟨rfl, lo, by rw [hok], by have := HN.out; omega, HLT.out, by have := HGE.out; rwa [← hlh] at this⟩
      have HF := Lib.hid HFP
      clear HFP hlh
      by_cases hln : lo < n
      · have hln' : (lo : Int) < n := by omega
        obtain ⟨x, hx⟩ : ∃ x, ks[lo]? = some x := get_some (by have := HN.out; omega)
        obtain ⟨b, off, rfl, hb, hc⟩ := HK.out.get hx
        have HX := Lib.hid hx
        clear hx
        have hbe := ba_beq x key
        by_cases hxk : x = key
        · have h4 : (x.toList == key.toList) = true := by rw [hbe]; simpa using hxk
          have HXK := Lib.hid hxk
          clear hbe hxk
          go_wp2_with fail
          go_ret2
          exact HF.out true (by rw [HX.out, HXK.out]; simp)
        · have h4 : (x.toList == key.toList) = false := by rw [hbe]; simpa using hxk
          have HXK := Lib.hid hxk
          have HC := Lib.hid (nanSl_any x w)
          clear hbe hxk
          go_wp2_with fail
          refine HC.out.mono ?_
          rintro e w1 ⟨rfl, rfl⟩
          go_wp2_with fail
          go_ret2
          exact HF.out false (by rw [HX.out]; simpa using HXK.out)
      · have hln' : ¬ (lo : Int) < n := by omega
        go_wp2_with fail
        go_ret2
        exact HF.out false (by rw [List.getElem?_eq_none (by have := HN.out; omega)]; simp)


theorem wp_region_at {P : Program} {id : Nat} {Q : Exit → Act → World → Prop} {a : Act} {B : Nat} {w : World} (u : Ext B w) {l : List Oper} (hm : P.follows .mixedOrders = true) (hB : Region.lexB .any l.toArray = true)
    (h : wpQuiet P l.toArray (fun w' => ∃ u : Ext B w, w' = u.w) (fun a' => ∀ w', (∃ u : Ext B w, w' = u.w) → Q .normal a' w') l a) : (Code.region id l.toArray true).wp P Q a u.w :=
  wp_region_quiet (C := fun w' => ∃ u : Ext B w, w' = u.w) hm hB ⟨⟨u.w.drew, u.below.drew⟩, rfl⟩ (by simpa using h)
theorem Ext.start (B : Nat) (w : World) : ∃ u : Ext B w, w = u.w := ⟨⟨w, Below.refl _ _⟩, rfl⟩
theorem ext_still {P : Program} {B : Nat} {w : World} {f : FuncId} {args : Array Value} {v : Value} (u : Ext B w) (h : Calls P f args u.w fun e w' => e = .returned v ∧ u.w = w') : Calls P f args u.w fun e w'' => e = .returned v ∧ ∃ u' : Ext B w, w'' = u'.w :=
  h.mono fun _ _ ⟨he, hw⟩ => ⟨he, u, hw.symm⟩
/-- What stands behind a region that appends: the act and the world are found by the first order walked. -/
def Mid (A : Nat → Nat → Act) (F : Nat → Nat → World → World) (R : Nat → Nat → World → Prop) : Exit → Act → World → Prop
  | .normal, a, w => ∃ g c w1, R g c w1 ∧ a = A g c ∧ w = F g c w1
  | _, _, _ => False
theorem wp_mid {P : Program} {c : Code} {Q : Exit → Act → World → Prop} {a : Act} {w : World} (A : Nat → Nat → Act) (F : Nat → Nat → World → World) (R : Nat → Nat → World → Prop)
    (h : c.wp P (Mid A F R) a w) (k : ∀ g c w1, R g c w1 → Q .normal (A g c) (F g c w1)) : c.wp P Q a w := by
  refine Code.wp_mono ?_ h
  intro e a w h
  cases e with
  | normal =>
    obtain ⟨g, c, w1, hr, rfl, rfl⟩ := h
    exact k g c w1 hr
  | _ => exact h.elim
end Go.Proofs.Ytjoopjmcnkiieaa

/- A region that draws its order and ends in stores: what is held need not hold behind those. Conditions: the last stores wait for what is taken first. -/
namespace Go.Proofs.Ytjoopjmcnkiieaa
set_option linter.unusedVariables false

section
variable {P : Program} {ops : Array Oper} {Q : Exit → Act → World → Prop} {md : Region.Mode} {S : World → Prop} {tl : Nat → Bool}

/-- Whatever order is picked, and S holds behind every operation but the last ones (tl). -/
def wpAnyJ (P : Program) (md : Region.Mode) (ops : Array Oper) (Q : Exit → Act → World → Prop) (S : World → Prop) (tl : Nat → Bool) : Nat → Array Bool → Act → World → Prop
  | 0, listed, a, w => Region.ready md ops listed = [] ∧ Q .normal a w
  | fuel + 1, listed, a, w =>
    (Region.ready md ops listed = [] → Q .normal a w) ∧
    ∀ i ∈ Region.ready md ops listed, wpOp P ops Q i (fun a' w' => (tl i = false → S w → S w') ∧ wpAnyJ P md ops Q S tl fuel (listed.setIfInBounds i true) a' w') a w
theorem wpAny_of_J : ∀ (fuel : Nat) (listed : Array Bool) (a : Act) (w : World), wpAnyJ P md ops Q S tl fuel listed a w → wpAny P md ops Q fuel listed a w
  | 0, _, _, _, h => h
  | fuel + 1, _, _, _, h => ⟨h.1, fun i hi => wpOp_mono (fun a' w' h' => wpAny_of_J fuel _ a' w' h'.2) (h.2 i hi)⟩
/-- Each of the last ones waits for i. -/
def tailWaits (md : Region.Mode) (ops : Array Oper) (tl : Nat → Bool) (i : Nat) : Bool :=
  (List.range ops.size).all fun j => !tl j || match ops[j]? with
    | some o => o.after.any fun e => Region.binds md e && e.on == i
    | none => true
theorem tailWaits_spec {i : Nat} (h : tailWaits md ops tl i = true) (j : Nat) (oj : Oper) (hj : ops[j]? = some oj) (ht : tl j = true) : ∃ e ∈ oj.after, Region.binds md e = true ∧ e.on = i := by
  unfold tailWaits at h
  rw [List.all_eq_true] at h
  have h1 := h j (List.mem_range.2 (Array.getElem?_eq_some_iff.1 hj).1)
  simp only [ht, Bool.not_true, Bool.false_or, hj] at h1
  obtain ⟨e, he, hb⟩ := Array.any_eq_true'.1 h1
  simp only [Bool.and_eq_true, beq_iff_eq] at hb
  exact ⟨e, he, hb.1, hb.2⟩
theorem wpAnyJ_first {i : Nat} {oi : Oper} {v : Value} (hi : ops[i]? = some oi) (hsel : ∀ (j : Nat) (o : Oper) cs b, ops[j]? = some o → o.op ≠ .select cs b)
    (htl : ∀ j oj, ops[j]? = some oj → tl j = true → ∃ e ∈ oj.after, Region.binds md e = true ∧ e.on = i)
    (hQ : ∀ c a w, Q (.panic c) (a.put oi.dst v) w → Q (.panic c) a w) :
    ∀ (fuel : Nat) (listed : Array Bool) (a : Act) (w : World),
      (∀ j oj, ops[j]? = some oj → j ≠ i → listed.getD j true = false → (∀ e ∈ oj.after, Region.binds md e = true → e.on ≠ i) → oi.apart ops oj = true) →
      i ∈ Region.ready md ops listed → YieldsIf P ops S oi v a → S w →
      wpAnyJ P md ops Q S tl fuel (listed.setIfInBounds i true) (a.put oi.dst v) w → wpAnyJ P md ops Q S tl (fuel + 1) listed a w := by
  intro fuel
  induction fuel with
  | zero =>
    intro listed a w _ hr hy hS H
    refine ⟨fun h => (by rw [h] at hr; cases hr), fun j hj => ?_⟩
    by_cases hji : j = i
    · subst hji; exact hy.wpOp hi hS ⟨fun _ h => h, H⟩
    · have := ready_mono hj hji
      rw [H.1] at this
      cases this
  | succ fuel ih =>
    intro listed a w hfree hr hy hS H
    refine ⟨fun h => (by rw [h] at hr; cases hr), fun j hj => ?_⟩
    by_cases hji : j = i
    · subst hji; exact hy.wpOp hi hS ⟨fun _ h => h, H⟩
    · have h1 := H.2 j (ready_mono hj hji)
      obtain ⟨hjun, oj, hoj, hall⟩ := mem_ready.1 hj
      have hnot : ∀ e ∈ oj.after, Region.binds md e = true → e.on ≠ i := fun e he hb heq => by
        have h1 := hall e he hb
        have h0 := (mem_ready.1 hr).1
        rw [heq] at h1
        rcases Nat.lt_or_ge i listed.size with h' | h'
        · simp [h'] at h0 h1; rw [h0] at h1; cases h1
        · simp [Array.getElem?_eq_none h'] at h1
      have htj : tl j = false := by
        cases ht : tl j with
        | false => rfl
        | true =>
          obtain ⟨e, he, hb, heq⟩ := htl j oj hoj ht
          exact absurd heq (hnot e he hb)
      have h2 := wpOp_putIf hoj (hfree j oj hoj hji hjun hnot) (fun cs b => hsel i oi cs b hi) (fun cs b => hsel j oj cs b hoj) hQ hy h1
      have hfree' : ∀ k ok, ops[k]? = some ok → k ≠ i → (listed.setIfInBounds j true).getD k true = false →
          (∀ e ∈ ok.after, Region.binds md e = true → e.on ≠ i) → oi.apart ops ok = true := fun k ok hk hki hun hno => by
        refine hfree k ok hk hki ?_ hno
        by_cases hjk : j = k
        · subst hjk; exact hjun
        · rw [getD_set_ne true hjk] at hun; exact hun
      refine wpOp_mono (fun a' w' h3 => ⟨fun _ _ => h3.2.1 htj hS, ih (listed.setIfInBounds j true) a' w' hfree' (ready_mono hr (Ne.symm hji)) h3.1 (h3.2.1 htj hS) ?_⟩) h2
      rw [Array.setIfInBounds_comm _ _ hji]
      exact h3.2.2
theorem wpAnyJ_take {i : Nat} {oi : Oper} {v : Value} {fuel : Nat} {listed : Array Bool} {a : Act} {w : World} (hi : ops[i]? = some oi)
    (hs : Region.noSelect ops = true) (hf : Region.free md ops listed i = true) (hr : (Region.ready md ops listed).contains i = true) (ht : tailWaits md ops tl i = true)
    (hQ : ∀ c a w, Q (.panic c) (a.put oi.dst v) w → Q (.panic c) a w) (hy : YieldsIf P ops S oi v a) (hS : S w)
    (h : wpAnyJ P md ops Q S tl fuel (listed.setIfInBounds i true) (a.put oi.dst v) w) : wpAnyJ P md ops Q S tl (fuel + 1) listed a w :=
  wpAnyJ_first hi (Region.noSelect_spec hs) (tailWaits_spec ht) hQ fuel listed a w (Region.free_spec hi hf) (by simpa using hr) hy hS h
/-- What yields in whatever world may be taken first without more. -/
theorem wpAnyJ_pure {i : Nat} {oi : Oper} {v : Value} (hi : ops[i]? = some oi) (hsel : ∀ (j : Nat) (o : Oper) cs b, ops[j]? = some o → o.op ≠ .select cs b)
    (hQ : ∀ c a w, Q (.panic c) (a.put oi.dst v) w → Q (.panic c) a w) :
    ∀ (fuel : Nat) (listed : Array Bool) (a : Act) (w : World),
      (∀ j oj, ops[j]? = some oj → j ≠ i → listed.getD j true = false → (∀ e ∈ oj.after, Region.binds md e = true → e.on ≠ i) → oi.apart ops oj = true) →
      i ∈ Region.ready md ops listed → YieldsIf P ops (fun _ => True) oi v a →
      wpAnyJ P md ops Q S tl fuel (listed.setIfInBounds i true) (a.put oi.dst v) w → wpAnyJ P md ops Q S tl (fuel + 1) listed a w := by
  intro fuel
  induction fuel with
  | zero =>
    intro listed a w _ hr hy H
    refine ⟨fun h => (by rw [h] at hr; cases hr), fun j hj => ?_⟩
    by_cases hji : j = i
    · subst hji; exact hy.wpOp hi trivial ⟨fun _ h => h, H⟩
    · have := ready_mono hj hji
      rw [H.1] at this
      cases this
  | succ fuel ih =>
    intro listed a w hfree hr hy H
    refine ⟨fun h => (by rw [h] at hr; cases hr), fun j hj => ?_⟩
    by_cases hji : j = i
    · subst hji; exact hy.wpOp hi trivial ⟨fun _ h => h, H⟩
    · have h1 := H.2 j (ready_mono hj hji)
      obtain ⟨hjun, oj, hoj, hall⟩ := mem_ready.1 hj
      have hnot : ∀ e ∈ oj.after, Region.binds md e = true → e.on ≠ i := fun e he hb heq => by
        have h1 := hall e he hb
        have h0 := (mem_ready.1 hr).1
        rw [heq] at h1
        rcases Nat.lt_or_ge i listed.size with h' | h'
        · simp [h'] at h0 h1; rw [h0] at h1; cases h1
        · simp [Array.getElem?_eq_none h'] at h1
      have h2 := wpOp_putIf hoj (hfree j oj hoj hji hjun hnot) (fun cs b => hsel i oi cs b hi) (fun cs b => hsel j oj cs b hoj) hQ hy h1
      have hfree' : ∀ k ok, ops[k]? = some ok → k ≠ i → (listed.setIfInBounds j true).getD k true = false →
          (∀ e ∈ ok.after, Region.binds md e = true → e.on ≠ i) → oi.apart ops ok = true := fun k ok hk hki hun hno => by
        refine hfree k ok hk hki ?_ hno
        by_cases hjk : j = k
        · subst hjk; exact hjun
        · rw [getD_set_ne true hjk] at hun; exact hun
      refine wpOp_mono (fun a' w' h3 => ⟨h3.2.1, ih (listed.setIfInBounds j true) a' w' hfree' (ready_mono hr (Ne.symm hji)) h3.1 ?_⟩) h2
      rw [Array.setIfInBounds_comm _ _ hji]
      exact h3.2.2
theorem wpAnyJ_take0 {i : Nat} {oi : Oper} {v : Value} {fuel : Nat} {listed : Array Bool} {a : Act} {w : World} (hi : ops[i]? = some oi)
    (hs : Region.noSelect ops = true) (hf : Region.free md ops listed i = true) (hr : (Region.ready md ops listed).contains i = true)
    (hQ : ∀ c a w, Q (.panic c) (a.put oi.dst v) w → Q (.panic c) a w) (hy : YieldsIf P ops (fun _ => True) oi v a)
    (h : wpAnyJ P md ops Q S tl fuel (listed.setIfInBounds i true) (a.put oi.dst v) w) : wpAnyJ P md ops Q S tl (fuel + 1) listed a w :=
  wpAnyJ_pure hi (Region.noSelect_spec hs) hQ fuel listed a w (Region.free_spec hi hf) (by simpa using hr) hy h
theorem wp_region_J {id : Nat} {a : Act} {w : World} (tl : Nat → Bool) (hm : P.follows .mixedOrders = true)
    (h : wpAnyJ P .any ops Q S tl ops.size (Array.replicate ops.size false) a w.drew) : (Code.region id ops true).wp P Q a w := by
  have h1 : wpAnyH P .any ops Q (fun _ => True) ops.size (Array.replicate ops.size false) a w.drew := by
    have h2 : ∀ (fuel : Nat) (listed : Array Bool) (a : Act) (w : World), wpAnyJ P .any ops Q S tl fuel listed a w → wpAnyH P .any ops Q (fun _ => True) fuel listed a w := by
      intro fuel
      induction fuel with
      | zero => intro listed a w h; exact h
      | succ fuel ih => intro listed a w h; exact ⟨h.1, fun i hi => wpOp_mono (fun a' w' h' => ⟨trivial, ih _ a' w' h'.2⟩) (h.2 i hi)⟩
    exact h2 _ _ _ _ h
  exact wp_region_held hm h1
def AllReadyJ (P : Program) (md : Region.Mode) (ops : Array Oper) (Q : Exit → Act → World → Prop) (S : World → Prop) (tl : Nat → Bool) (fuel : Nat) (listed : Array Bool) (a : Act) (w : World) (rs : List Nat) : Prop :=
  ∀ i ∈ rs, wpOp P ops Q i (fun a' w' => (tl i = false → S w → S w') ∧ wpAnyJ P md ops Q S tl fuel (listed.setIfInBounds i true) a' w') a w
theorem AllReadyJ.nil {fuel : Nat} {listed : Array Bool} {a : Act} {w : World} : AllReadyJ P md ops Q S tl fuel listed a w [] := fun _ h => by cases h
theorem AllReadyJ.cons {fuel : Nat} {listed : Array Bool} {a : Act} {w : World} {i : Nat} {o : Oper} {rs : List Nat} (ho : ops[i]? = some o)
    (h : ∀ K' : Act → World → Prop, Shut (∀ a' w', (tl i = false → S w → S w') → wpAnyJ P md ops Q S tl fuel (listed.setIfInBounds i true) a' w' → K' a' w') → if Region.wanted o (yielded ops a.tmps) = true then o.wp P a w K' Q else K' (a.put o.dst undef) w)
    (hs : AllReadyJ P md ops Q S tl fuel listed a w rs) : AllReadyJ P md ops Q S tl fuel listed a w (i :: rs) := fun j hj => by
  rcases List.mem_cons.1 hj with rfl | hj
  · exact wpOp_step ho (fun K' hK => h K' (fun a w hS hW => hK a w ⟨hS, hW⟩))
  · exact hs j hj
theorem wpAnyJ_ready {rs : List Nat} {fuel : Nat} {listed : Array Bool} {a : Act} {w : World} (hr : Region.ready md ops listed = rs) (hne : rs ≠ [])
    (h : AllReadyJ P md ops Q S tl fuel listed a w rs) : wpAnyJ P md ops Q S tl (fuel + 1) listed a w :=
  ⟨fun h0 => absurd (hr ▸ h0) hne, hr ▸ h⟩
theorem wpAnyJ_done {listed : Array Bool} {a : Act} {w : World} (hr : Region.ready md ops listed = []) (h : Q .normal a w) :
    ∀ fuel, wpAnyJ P md ops Q S tl fuel listed a w
  | 0 => ⟨hr, h⟩
  | fuel + 1 => ⟨fun _ => h, fun i hi => by rw [hr] at hi; cases hi⟩
end
end Go.Proofs.Ytjoopjmcnkiieaa

/- A node of the tree in memory; its footprint as a count of blocks; what a statement that writes two fields passes through. Conditions: none. -/
namespace Go.Proofs.Ytjoopjmcnkiieaa
open Go.RowKit Go.Lib
set_option linter.unusedSimpArgs false
set_option linter.unusedVariables false

def ptrV (c : Nat) : Value := .pointer (some ⟨c, 0, none⟩)
def numV (n : Int) : Value := .int .i64 n
theorem str_one (K : List ByteArray) : ∀ u ∈ K.map Value.string, u.oneCell' = true := fun u hu => by simp at hu; obtain ⟨q, _, rfl⟩ := hu; rfl
theorem num_one (V : List Int) : ∀ u ∈ V.map numV, u.oneCell' = true := fun u hu => by simp at hu; obtain ⟨q, _, rfl⟩ := hu; rfl
theorem ptr_one (C : List Nat) : ∀ u ∈ C.map ptrV, u.oneCell' = true := fun u hu => by simp at hu; obtain ⟨q, _, rfl⟩ := hu; rfl
theorem insAt_map {α β : Type} (f : α → β) (xs : List α) (i : Nat) (x : α) : (insAt xs i x).map f = insAt (xs.map f) i (f x) := by simp [insAt, List.map_take, List.map_drop]
theorem erase_map {α β : Type} (f : α → β) (xs : List α) (i : Nat) : (xs.eraseIdx i).map f = (xs.map f).eraseIdx i := by
  apply List.ext_getElem?
  intro q
  rw [List.getElem?_map, erase_get, erase_get]
  split <;> rw [List.getElem?_map]

/-- How often a block is a row's. -/
def rb (v : Value) (k : Nat) : Nat := if v.ownBlock = some k then 1 else 0
theorem rb_nil (k : Nat) : rb (.slice none 0 0) k = 0 := by unfold rb; rw [if_neg (fun h => by cases h)]
theorem rb_some {v : Value} {k : Nat} (h : v.ownBlock = some k) : rb v k = 1 := if_pos h
theorem rb_zero {v : Value} {k : Nat} (h : rb v k = 0) : v.ownBlock ≠ some k := fun e => by rw [rb_some e] at h; cases h
theorem rb_le (v : Value) (k : Nat) : rb v k ≤ 1 := by unfold rb; split <;> omega
/-- How often a block is a node's own. -/
def ow (p : Nat) (v1 v2 v3 : Value) (k : Nat) : Nat := (if k = p then 1 else 0) + rb v1 k + rb v2 k + rb v3 k
theorem ow_self (p : Nat) (v1 v2 v3 : Value) : 1 ≤ ow p v1 v2 v3 p := by unfold ow; rw [if_pos rfl]; omega

/-- From w to w' nothing has turned but the blocks of F; what F' counts was F's, or is new; each block once. -/
structure Fr (F F' : Nat → Nat) (w w' : World) : Prop where
  os : w'.os = w.os
  tape : w'.tape = w.tape
  output : w'.output = w.output
  size : w.heap.size ≤ w'.heap.size
  block : ∀ k, k < w.heap.size → F k = 0 → w'.heap[k]? = w.heap[k]?
  le : ∀ k, k < w.heap.size → F' k ≤ F k
  one : ∀ k, F' k ≤ 1
  hi : ∀ k, w'.heap.size ≤ k → F' k = 0
theorem Fr.refl {F : Nat → Nat} {w : World} (h1 : ∀ k, F k ≤ 1) (h2 : ∀ k, w.heap.size ≤ k → F k = 0) : Fr F F w w :=
  ⟨rfl, rfl, rfl, Nat.le_refl _, fun _ _ _ => rfl, fun _ _ => Nat.le_refl _, h1, h2⟩
theorem Fr.trans {F F' F'' : Nat → Nat} {a b c : World} (h : Fr F F' a b) (k : Fr F' F'' b c) : Fr F F'' a c where
  os := k.os.trans h.os
  tape := k.tape.trans h.tape
  output := k.output.trans h.output
  size := Nat.le_trans h.size k.size
  block x hx h0 := by
    have h1 := h.le x hx
    rw [k.block x (Nat.lt_of_lt_of_le hx h.size) (by omega), h.block x hx h0]
  le x hx := Nat.le_trans (k.le x (Nat.lt_of_lt_of_le hx h.size)) (h.le x hx)
  one := k.one
  hi := k.hi
/-- Something beside it. -/
theorem Fr.frame {F F' : Nat → Nat} {w w' : World} (h : Fr F F' w w') (G : Nat → Nat) (h1 : ∀ k, F k + G k ≤ 1) (h2 : ∀ k, w.heap.size ≤ k → G k = 0) : Fr (fun k => F k + G k) (fun k => F' k + G k) w w' where
  os := h.os
  tape := h.tape
  output := h.output
  size := h.size
  block k hk h0 := h.block k hk (by omega)
  le k hk := by have := h.le k hk; omega
  one k := by
    by_cases hk : k < w.heap.size
    · have := h.le k hk; have := h1 k; omega
    · have := h.one k; have := h2 k (by omega); omega
  hi k hk := by have := h.hi k hk; have := h.size; have := h2 k (by omega); omega
theorem Fr.congr {F F' G G' : Nat → Nat} {w w' : World} (h : Fr F F' w w') (h1 : ∀ k, F k = G k) (h2 : ∀ k, F' k = G' k) : Fr G G' w w' := by
  obtain rfl : F = G := funext h1
  obtain rfl : F' = G' := funext h2
  exact h
/-- Some of what was there is let go. -/
theorem Fr.less {F F' G : Nat → Nat} {w w' : World} (h : Fr F F' w w') (h1 : ∀ k, G k ≤ F' k) : Fr F G w w' :=
  { h with le := fun k hk => Nat.le_trans (h1 k) (h.le k hk), one := fun k => Nat.le_trans (h1 k) (h.one k), hi := fun k hk => by have := h.hi k hk; have := h1 k; omega }
theorem Fr.alloc {F F' : Nat → Nat} {a w : World} (h : Fr F F' a w) (o : Obj) : Fr F F' a (w.alloc o) :=
  { h with size := by have := h.size; simp; omega, block := fun k hk h0 => by rw [Below.heap_alloc _ _ _ (Nat.lt_of_lt_of_le hk h.size), h.block k hk h0], hi := fun k hk => h.hi k (by simp at hk; omega) }
theorem Fr.drew {F F' : Nat → Nat} {a w : World} (h : Fr F F' a w) : Fr F F' a w.drew := { h with }
/-- A block that is new is counted too. -/
theorem Fr.new {F F' : Nat → Nat} {a w : World} (h : Fr F F' a w) (o : Obj) : Fr F (fun k => F' k + (if k = w.heap.size then 1 else 0)) a (w.alloc o) := by
  have hs := h.size
  refine { h.alloc o with le := fun k hk => ?_, one := fun k => ?_, hi := fun k hk => ?_ }
  · have := h.le k hk
    rw [if_neg (by omega)]; omega
  · have := h.one k
    by_cases hk : k = w.heap.size
    · have := h.hi k (by omega); rw [if_pos hk]; omega
    · rw [if_neg hk]; omega
  · simp at hk
    have := h.hi k (by omega)
    rw [if_neg (by omega)]; omega
theorem Fr.setCell {F F' : Nat → Nat} {a w : World} (h : Fr F F' a w) {p : Addr} (hp : 0 < F' p.block) (v : Value) : Fr F F' a (w.setCell p v) := by
  have hz : (w.setCell p v).heap.size = w.heap.size := by simp [World.setCell]
  refine { h with size := by rw [hz]; exact h.size, block := fun k hk h0 => ?_, hi := fun k hk => h.hi k (by omega) }
  rw [Below.heap_setCell _ _ _ _ (fun e => by have := h.le k hk; rw [e] at this h0; omega), h.block k hk h0]
/-- A row has turned. -/
theorem Fr.row {w w' : World} {e : TypeId} {v v' : Value} {xs' : List Value} (hg : w.grownBy w' v.ownBlock) (hn : NewB w v v') (h' : Arr w' e v' xs') : Fr (rb v) (rb v') w w' where
  os := hg.os
  tape := hg.tape
  output := hg.output
  size := hg.size
  block k hk h0 := hg.block k hk (fun e => rb_zero h0 e.symm)
  le k hk := by
    rcases hn with e | ⟨g, e, hge⟩
    · unfold rb; rw [e]; exact Nat.le_refl _
    · unfold rb; rw [e, if_neg (fun e2 => by injection e2 with e2; omega)]; exact Nat.zero_le _
  one := rb_le v'
  hi k hk := by
    by_cases hv : v'.ownBlock = some k
    · have := h'.lt k hv; omega
    · exact if_neg hv
theorem Fr.is_below {F F' : Nat → Nat} {w w' : World} {B : Nat} (h : Fr F F' w w') (hB : B ≤ w.heap.size) (hF : ∀ k, k < B → F k = 0) : Below B w w' :=
  ⟨h.os, h.tape, h.output, h.size, fun k hk => h.block k (by omega) (hF k hk)⟩

/-- A node: its three rows. -/
structure NodeAt (w : World) (p : Nat) (v1 v2 v3 : Value) (K : List ByteArray) (V : List Int) (C : List Nat) : Prop where
  blk : Block w p [v1, v2, v3] 69
  r1 : Arr w 9 v1 (K.map Value.string)
  r2 : Arr w 2 v2 (V.map numV)
  r3 : Arr w 61 v3 (C.map ptrV)
theorem NodeAt.of_heap {w w' : World} {p : Nat} {v1 v2 v3 : Value} {K : List ByteArray} {V : List Int} {C : List Nat} (h : NodeAt w p v1 v2 v3 K V C) (hh : ∀ k, 0 < ow p v1 v2 v3 k → w'.heap[k]? = w.heap[k]?) : NodeAt w' p v1 v2 v3 K V C :=
  ⟨h.blk.of_heap (hh p (ow_self p v1 v2 v3)), h.r1.of_heap fun k e => hh k (by unfold ow; rw [rb_some e]; omega), h.r2.of_heap fun k e => hh k (by unfold ow; rw [rb_some e]; omega), h.r3.of_heap fun k e => hh k (by unfold ow; rw [rb_some e]; omega)⟩
theorem NodeAt.hi {w : World} {p : Nat} {v1 v2 v3 : Value} {K : List ByteArray} {V : List Int} {C : List Nat} (h : NodeAt w p v1 v2 v3 K V C) (k : Nat) (hk : w.heap.size ≤ k) : ow p v1 v2 v3 k = 0 := by
  have h1 := h.blk.lt
  have hr : ∀ {e : TypeId} {v : Value} {xs : List Value}, Arr w e v xs → rb v k = 0 := fun {e v xs} hv => by
    by_cases he : v.ownBlock = some k
    · have := hv.lt k he; omega
    · exact if_neg he
  unfold ow
  rw [if_neg (by omega), hr h.r1, hr h.r2, hr h.r3]
/-- What else stands beside: untouched. -/
theorem NodeAt.frame {w w' : World} {F F' : Nat → Nat} {p : Nat} {v1 v2 v3 : Value} {K : List ByteArray} {V : List Int} {C : List Nat} (h : NodeAt w p v1 v2 v3 K V C) (hf : Fr F F' w w') (hd : ∀ k, F k + ow p v1 v2 v3 k ≤ 1) : NodeAt w' p v1 v2 v3 K V C :=
  h.of_heap fun k hk => hf.block k (by
    by_cases hkk : k < w.heap.size
    · exact hkk
    · have := h.hi k (by omega); omega) (by have := hd k; omega)

/-- What a statement passes through that writes fields of a node: the cells, the rows that are or will be there, single elements in blocks of their own. -/
structure St (w0 : World) (F0 : Nat → Nat) (u : World) (p : Nat) (c1 c2 c3 v1 v2 v3 : Value) (K : List ByteArray) (V : List Int) (C : List Nat) (E : List (Nat × Value × TypeId)) : Prop where
  blk : Block u p [c1, c2, c3] 69
  r1 : Arr u 9 v1 (K.map Value.string)
  r2 : Arr u 2 v2 (V.map numV)
  r3 : Arr u 61 v3 (C.map ptrV)
  fr : Fr F0 (ow p v1 v2 v3) w0 u
  ex : ∀ e ∈ E, Block u e.1 [e.2.1] e.2.2 ∧ ow p v1 v2 v3 e.1 = 0
section
variable {w0 u : World} {F0 : Nat → Nat} {p : Nat} {c1 c2 c3 v1 v2 v3 : Value} {K : List ByteArray} {V : List Int} {C : List Nat} {E : List (Nat × Value × TypeId)}
theorem St.start (h : NodeAt u p v1 v2 v3 K V C) (h1 : ∀ k, ow p v1 v2 v3 k ≤ 1) : St u (ow p v1 v2 v3) u p v1 v2 v3 v1 v2 v3 K V C [] :=
  ⟨h.blk, h.r1, h.r2, h.r3, Fr.refl h1 h.hi, fun e he => by cases he⟩
theorem St.drew (h : St w0 F0 u p c1 c2 c3 v1 v2 v3 K V C E) : St w0 F0 u.drew p c1 c2 c3 v1 v2 v3 K V C E := ⟨h.blk, h.r1, h.r2, h.r3, h.fr.drew, h.ex⟩
theorem St.alloc (h : St w0 F0 u p c1 c2 c3 v1 v2 v3 K V C E) (x : Value) (t : TypeId) : St w0 F0 (u.alloc (.cells #[x] t)) p c1 c2 c3 v1 v2 v3 K V C ((u.heap.size, x, t) :: E) := by
  have hk : ∀ k, k < u.heap.size → (u.alloc (.cells #[x] t)).heap[k]? = u.heap[k]? := fun k hk => Below.heap_alloc _ _ _ hk
  refine ⟨h.blk.alloc _, h.r1.of_heap fun k e => hk k (h.r1.lt k e), h.r2.of_heap fun k e => hk k (h.r2.lt k e), h.r3.of_heap fun k e => hk k (h.r3.lt k e), h.fr.alloc _, fun e he => ?_⟩
  rcases List.mem_cons.1 he with rfl | he
  · exact ⟨Block.new u [x] t, h.fr.hi _ (Nat.le_refl _)⟩
  · exact ⟨(h.ex e he).1.alloc _, (h.ex e he).2⟩
theorem St.cell (h : St w0 F0 u p c1 c2 c3 v1 v2 v3 K V C E) : u.cell? ⟨p, 0, none⟩ = some c1 ∧ u.cell? ⟨p, 1, none⟩ = some c2 ∧ u.cell? ⟨p, 2, none⟩ = some c3 ∧ ∀ q, u.frozen? ⟨p, q, none⟩ = false :=
  ⟨h.blk.cell rfl, h.blk.cell rfl, h.blk.cell rfl, fun q => h.blk.free q⟩
/-- A cell of what stands beside. -/
theorem St.other (h : St w0 F0 u p c1 c2 c3 v1 v2 v3 K V C E) {a : Addr} {x : Value} (hx : w0.cell? a = some x) (h0 : F0 a.block = 0) : u.cell? a = some x :=
  (World.cell?_of_block (h.fr.block _ (World.block_lt_of_cell? w0 a hx) h0)).trans hx
theorem St.end (h : St w0 F0 u p v1 v2 v3 v1 v2 v3 K V C E) : NodeAt u p v1 v2 v3 K V C := ⟨h.blk, h.r1, h.r2, h.r3⟩
theorem St.put0 (h : St w0 F0 u p c1 c2 c3 v1 v2 v3 K V C E) (v : Value) : St w0 F0 (u.setCell ⟨p, 0, none⟩ v) p v c2 c3 v1 v2 v3 K V C E := by
  have hp : ∀ k, k ≠ p → (u.setCell ⟨p, 0, none⟩ v).heap[k]? = u.heap[k]? := fun k hk => Below.heap_setCell _ _ _ _ hk
  have h1 := h.fr.one p
  unfold ow at h1
  rw [if_pos rfl] at h1
  refine ⟨h.blk.set 0 v, h.r1.of_heap fun k e => hp k (fun e2 => rb_zero (v := v1) (k := p) (by omega) (e2 ▸ e)), h.r2.of_heap fun k e => hp k (fun e2 => rb_zero (v := v2) (k := p) (by omega) (e2 ▸ e)), h.r3.of_heap fun k e => hp k (fun e2 => rb_zero (v := v3) (k := p) (by omega) (e2 ▸ e)), h.fr.setCell (by have := ow_self p v1 v2 v3; exact this) v, fun e he => ⟨(h.ex e he).1.of_heap (hp _ (fun e2 => by have h5 := (h.ex e he).2; rw [e2] at h5; have := ow_self p v1 v2 v3; omega)), (h.ex e he).2⟩⟩
theorem St.put1 (h : St w0 F0 u p c1 c2 c3 v1 v2 v3 K V C E) (v : Value) : St w0 F0 (u.setCell ⟨p, 1, none⟩ v) p c1 v c3 v1 v2 v3 K V C E := by
  have hp : ∀ k, k ≠ p → (u.setCell ⟨p, 1, none⟩ v).heap[k]? = u.heap[k]? := fun k hk => Below.heap_setCell _ _ _ _ hk
  have h1 := h.fr.one p
  unfold ow at h1
  rw [if_pos rfl] at h1
  refine ⟨h.blk.set 1 v, h.r1.of_heap fun k e => hp k (fun e2 => rb_zero (v := v1) (k := p) (by omega) (e2 ▸ e)), h.r2.of_heap fun k e => hp k (fun e2 => rb_zero (v := v2) (k := p) (by omega) (e2 ▸ e)), h.r3.of_heap fun k e => hp k (fun e2 => rb_zero (v := v3) (k := p) (by omega) (e2 ▸ e)), h.fr.setCell (by have := ow_self p v1 v2 v3; exact this) v, fun e he => ⟨(h.ex e he).1.of_heap (hp _ (fun e2 => by have h5 := (h.ex e he).2; rw [e2] at h5; have := ow_self p v1 v2 v3; omega)), (h.ex e he).2⟩⟩
theorem St.put2 (h : St w0 F0 u p c1 c2 c3 v1 v2 v3 K V C E) (v : Value) : St w0 F0 (u.setCell ⟨p, 2, none⟩ v) p c1 c2 v v1 v2 v3 K V C E := by
  have hp : ∀ k, k ≠ p → (u.setCell ⟨p, 2, none⟩ v).heap[k]? = u.heap[k]? := fun k hk => Below.heap_setCell _ _ _ _ hk
  have h1 := h.fr.one p
  unfold ow at h1
  rw [if_pos rfl] at h1
  refine ⟨h.blk.set 2 v, h.r1.of_heap fun k e => hp k (fun e2 => rb_zero (v := v1) (k := p) (by omega) (e2 ▸ e)), h.r2.of_heap fun k e => hp k (fun e2 => rb_zero (v := v2) (k := p) (by omega) (e2 ▸ e)), h.r3.of_heap fun k e => hp k (fun e2 => rb_zero (v := v3) (k := p) (by omega) (e2 ▸ e)), h.fr.setCell (by have := ow_self p v1 v2 v3; exact this) v, fun e he => ⟨(h.ex e he).1.of_heap (hp _ (fun e2 => by have h5 := (h.ex e he).2; rw [e2] at h5; have := ow_self p v1 v2 v3; omega)), (h.ex e he).2⟩⟩
/-- The first row has turned. -/
theorem St.row1 {u' : World} {v1' : Value} {K' : List ByteArray} (h : St w0 F0 u p c1 c2 c3 v1 v2 v3 K V C E) (hg : u.grownBy u' v1.ownBlock) (hn : NewB u v1 v1') (h' : Arr u' 9 v1' (K'.map Value.string)) : St w0 F0 u' p c1 c2 c3 v1' v2 v3 K' V C E := by
  have hone := h.fr.one
  have hhi := h.fr.hi
  have f1 := (Fr.row hg hn h').frame (fun k => (if k = p then 1 else 0) + rb v2 k + rb v3 k) (fun k => by have := hone k; unfold ow at this; omega) (fun k hk => by have := hhi k hk; unfold ow at this; omega)
  have f2 : Fr (ow p v1 v2 v3) (ow p v1' v2 v3) u u' := f1.congr (fun k => by unfold ow; omega) (fun k => by unfold ow; omega)
  have hb : ∀ k, k < u.heap.size → rb v1 k = 0 → u'.heap[k]? = u.heap[k]? := fun k hk h0 => hg.block k hk (fun e => rb_zero h0 e.symm)
  have hk2 : ∀ k, v2.ownBlock = some k → u'.heap[k]? = u.heap[k]? := fun k e => hb k (h.r2.lt k e) (by have := hone k; unfold ow at this; rw [rb_some e] at this; omega)
  have hk3 : ∀ k, v3.ownBlock = some k → u'.heap[k]? = u.heap[k]? := fun k e => hb k (h.r3.lt k e) (by have := hone k; unfold ow at this; rw [rb_some e] at this; omega)
  refine ⟨h.blk.of_heap (hb p h.blk.lt (by have := hone p; unfold ow at this; rw [if_pos rfl] at this; omega)), h', h.r2.of_heap hk2, h.r3.of_heap hk3, h.fr.trans f2, fun e he => ?_⟩
  obtain ⟨h5, h6⟩ := h.ex e he
  have h7 := f2.le e.1 h5.lt
  exact ⟨h5.of_heap (hb _ h5.lt (by unfold ow at h6; omega)), by omega⟩
theorem St.row2 {u' : World} {v2' : Value} {V' : List Int} (h : St w0 F0 u p c1 c2 c3 v1 v2 v3 K V C E) (hg : u.grownBy u' v2.ownBlock) (hn : NewB u v2 v2') (h' : Arr u' 2 v2' (V'.map numV)) : St w0 F0 u' p c1 c2 c3 v1 v2' v3 K V' C E := by
  have hone := h.fr.one
  have hhi := h.fr.hi
  have f1 := (Fr.row hg hn h').frame (fun k => (if k = p then 1 else 0) + rb v1 k + rb v3 k) (fun k => by have := hone k; unfold ow at this; omega) (fun k hk => by have := hhi k hk; unfold ow at this; omega)
  have f2 : Fr (ow p v1 v2 v3) (ow p v1 v2' v3) u u' := f1.congr (fun k => by unfold ow; omega) (fun k => by unfold ow; omega)
  have hb : ∀ k, k < u.heap.size → rb v2 k = 0 → u'.heap[k]? = u.heap[k]? := fun k hk h0 => hg.block k hk (fun e => rb_zero h0 e.symm)
  have hk2 : ∀ k, v1.ownBlock = some k → u'.heap[k]? = u.heap[k]? := fun k e => hb k (h.r1.lt k e) (by have := hone k; unfold ow at this; rw [rb_some e] at this; omega)
  have hk3 : ∀ k, v3.ownBlock = some k → u'.heap[k]? = u.heap[k]? := fun k e => hb k (h.r3.lt k e) (by have := hone k; unfold ow at this; rw [rb_some e] at this; omega)
  refine ⟨h.blk.of_heap (hb p h.blk.lt (by have := hone p; unfold ow at this; rw [if_pos rfl] at this; omega)), h.r1.of_heap hk2, h', h.r3.of_heap hk3, h.fr.trans f2, fun e he => ?_⟩
  obtain ⟨h5, h6⟩ := h.ex e he
  have h7 := f2.le e.1 h5.lt
  exact ⟨h5.of_heap (hb _ h5.lt (by unfold ow at h6; omega)), by omega⟩
theorem St.row3 {u' : World} {v3' : Value} {C' : List Nat} (h : St w0 F0 u p c1 c2 c3 v1 v2 v3 K V C E) (hg : u.grownBy u' v3.ownBlock) (hn : NewB u v3 v3') (h' : Arr u' 61 v3' (C'.map ptrV)) : St w0 F0 u' p c1 c2 c3 v1 v2 v3' K V C' E := by
  have hone := h.fr.one
  have hhi := h.fr.hi
  have f1 := (Fr.row hg hn h').frame (fun k => (if k = p then 1 else 0) + rb v1 k + rb v2 k) (fun k => by have := hone k; unfold ow at this; omega) (fun k hk => by have := hhi k hk; unfold ow at this; omega)
  have f2 : Fr (ow p v1 v2 v3) (ow p v1 v2 v3') u u' := f1.congr (fun k => by unfold ow; omega) (fun k => by unfold ow; omega)
  have hb : ∀ k, k < u.heap.size → rb v3 k = 0 → u'.heap[k]? = u.heap[k]? := fun k hk h0 => hg.block k hk (fun e => rb_zero h0 e.symm)
  have hk2 : ∀ k, v1.ownBlock = some k → u'.heap[k]? = u.heap[k]? := fun k e => hb k (h.r1.lt k e) (by have := hone k; unfold ow at this; rw [rb_some e] at this; omega)
  have hk3 : ∀ k, v2.ownBlock = some k → u'.heap[k]? = u.heap[k]? := fun k e => hb k (h.r2.lt k e) (by have := hone k; unfold ow at this; rw [rb_some e] at this; omega)
  refine ⟨h.blk.of_heap (hb p h.blk.lt (by have := hone p; unfold ow at this; rw [if_pos rfl] at this; omega)), h.r1.of_heap hk2, h.r2.of_heap hk3, h', h.fr.trans f2, fun e he => ?_⟩
  obtain ⟨h5, h6⟩ := h.ex e he
  have h7 := f2.le e.1 h5.lt
  exact ⟨h5.of_heap (hb _ h5.lt (by unfold ow at h6; omega)), by omega⟩

/-- slices.Insert of a text into the first row. -/
theorem St.ins1 {a : Option Addr} {n c vb i : Nat} {x : ByteArray} (h : St w0 F0 u p c1 c2 c3 (.slice a n c) v2 v3 K V C E) (hE : (vb, Value.string x, 9) ∈ E) (hi : i ≤ K.length) (hl : K.length ≤ 1000000) :
    Calls Try.prog 42 #[.slice a n c, .int .i64 i, .slice (some ⟨vb, 0, none⟩) 1 1] u fun e w' => ∃ g c', e = .returned (.slice (some ⟨g, 0, none⟩) (n + 1) c') ∧ St w0 F0 w' p c1 c2 c3 (.slice (some ⟨g, 0, none⟩) (n + 1) c') v2 v3 (insAt K i x) V C E := by
  obtain ⟨hx, h0⟩ := h.ex _ hE
  have hn := h.r1.cells.1
  rw [List.length_map] at hn
  subst hn
  have hr := h.r1
  have hm : (K.map Value.string).length = K.length := List.length_map _
  rw [← hm] at hr
  have := insS_any (K.map Value.string) i (.string x) a c vb u hr (str_one K) rfl (by rw [hm]; exact hi) hx (by rw [hm]; exact rb_zero (by unfold ow at h0; simp only at h0; omega)) (by rw [hm]; exact hl)
  rw [hm] at this
  refine this.mono ?_
  rintro e w' ⟨g, c', rfl, h1, h2, h3⟩
  rw [hm] at h1 h3
  exact ⟨g, c', by rw [hm], h.row1 h2 h3 (by rw [insAt_map]; exact h1)⟩
theorem St.ins2 {a : Option Addr} {n c vb i : Nat} {x : Int} (h : St w0 F0 u p c1 c2 c3 v1 (.slice a n c) v3 K V C E) (hE : (vb, numV x, 2) ∈ E) (hi : i ≤ V.length) (hl : V.length ≤ 1000000) :
    Calls Try.prog 43 #[.slice a n c, .int .i64 i, .slice (some ⟨vb, 0, none⟩) 1 1] u fun e w' => ∃ g c', e = .returned (.slice (some ⟨g, 0, none⟩) (n + 1) c') ∧ St w0 F0 w' p c1 c2 c3 v1 (.slice (some ⟨g, 0, none⟩) (n + 1) c') v3 K (insAt V i x) C E := by
  obtain ⟨hx, h0⟩ := h.ex _ hE
  have hn := h.r2.cells.1
  rw [List.length_map] at hn
  subst hn
  have hr := h.r2
  have hm : (V.map numV).length = V.length := List.length_map _
  rw [← hm] at hr
  have := insI_any (V.map numV) i (numV x) a c vb u hr (num_one V) rfl (by rw [hm]; exact hi) hx (by rw [hm]; exact rb_zero (by unfold ow at h0; simp only at h0; omega)) (by rw [hm]; exact hl)
  rw [hm] at this
  refine this.mono ?_
  rintro e w' ⟨g, c', rfl, h1, h2, h3⟩
  rw [hm] at h1 h3
  exact ⟨g, c', by rw [hm], h.row2 h2 h3 (by rw [insAt_map]; exact h1)⟩
theorem St.ins3 {a : Option Addr} {n c vb i x : Nat} (h : St w0 F0 u p c1 c2 c3 v1 v2 (.slice a n c) K V C E) (hE : (vb, ptrV x, 61) ∈ E) (hi : i ≤ C.length) (hl : C.length ≤ 1000000) (j : Int) (hj : j = (i : Int)) :
    Calls Try.prog 44 #[.slice a n c, .int .i64 j, .slice (some ⟨vb, 0, none⟩) 1 1] u fun e w' => ∃ g c', e = .returned (.slice (some ⟨g, 0, none⟩) (n + 1) c') ∧ St w0 F0 w' p c1 c2 c3 v1 v2 (.slice (some ⟨g, 0, none⟩) (n + 1) c') K V (insAt C i x) E := by
  subst hj
  obtain ⟨hx, h0⟩ := h.ex _ hE
  have hn := h.r3.cells.1
  rw [List.length_map] at hn
  subst hn
  have hr := h.r3
  have hm : (C.map ptrV).length = C.length := List.length_map _
  rw [← hm] at hr
  have := insP_any (C.map ptrV) i (ptrV x) a c vb u hr (ptr_one C) rfl (by rw [hm]; exact hi) hx (by rw [hm]; exact rb_zero (by unfold ow at h0; simp only at h0; omega)) (by rw [hm]; exact hl)
  rw [hm] at this
  refine this.mono ?_
  rintro e w' ⟨g, c', rfl, h1, h2, h3⟩
  rw [hm] at h1 h3
  exact ⟨g, c', by rw [hm], h.row3 h2 h3 (by rw [insAt_map]; exact h1)⟩
end
theorem leaf_any {w : World} {p : Nat} {v1 v2 v3 : Value} {K : List ByteArray} {V : List Int} {C : List Nat} (h : NodeAt w p v1 v2 v3 K V C) :
    Calls Try.prog 38 #[.pointer (some ⟨p, 0, none⟩)] w fun e w' => e = .returned (.bool C.isEmpty) ∧ w = w' := by
  obtain ⟨a, c, hv, hlc, _⟩ := h.r3.form
  rw [List.length_map] at hv
  have d2 := h.blk.cell (i := 2) rfl
  rw [hv] at d2
  have HE : Hid (C.isEmpty = decide (C.length = 0)) := Lib.hid (by cases C <;> simp)
  rw [HE.out]
  generalize C.length = n at *
  clear h hv HE
  by_cases hn : n = 0
  · subst hn
    go_enter Try.func38, Try.ntmps38
    go_wp2_with fail
    go_ret
    exact ⟨by simp, rfl⟩
  · have hn1 : ((n : Int) == 0) = false := by simpa using hn
    rw [decide_eq_false hn]
    go_enter Try.func38, Try.ntmps38
    go_wp2_with fail
    go_ret
    exact ⟨by simp, rfl⟩
theorem NodeAt.str {w : World} {p : Nat} {v1 v2 v3 : Value} {K : List ByteArray} {V : List Int} {C : List Nat} (h : NodeAt w p v1 v2 v3 K V C) : ∃ a c, v1 = .slice a K.length c ∧ StrRow w.heap.size w a K := by
  obtain ⟨a, c, hv, _⟩ := h.r1.form
  rw [List.length_map] at hv
  have h1 := h.r1
  rw [hv] at h1
  exact ⟨a, c, hv, h1.cells.2⟩
/-- Which kid a key belongs to. -/
def ChildP (K : List ByteArray) (key : ByteArray) (i : Nat) : Prop := i ≤ K.length ∧ (∀ (j : Nat) x, j < i → K[j]? = some x → ltS key x = false) ∧ ∀ (j : Nat) x, i ≤ j → K[j]? = some x → ltS key x = true
theorem ltS_tri (x y : ByteArray) : ltS x y = true ∨ x = y ∨ ltS y x = true := by
  unfold ltS
  rcases bl_tri x.toList y.toList with ⟨h, _⟩ | ⟨h, _⟩ | ⟨h, _⟩
  · exact .inl h
  · refine .inr (.inl ?_)
    have := ba_beq x y
    rw [h] at this
    simpa using this.symm
  · exact .inr (.inr h)
theorem ltS_irrefl (x : ByteArray) : ltS x x = false := (swo_at (fun z : ByteArray => z)).irrefl x
theorem ltS_trans {x y z : ByteArray} (h1 : ltS x y = true) (h2 : ltS y z = true) : ltS x z = true := bl_trans _ _ _ h1 h2
theorem ltS_asymm {x y : ByteArray} (h : ltS x y = true) : ltS y x = false := by
  cases h2 : ltS y x with
  | false => rfl
  | true => have := ltS_trans h h2; rw [ltS_irrefl] at this; cases this
theorem ltS_lt_le {x y z : ByteArray} (h1 : ltS x y = true) (h2 : ltS z y = false) : ltS x z = true := by
  rcases ltS_tri x z with h | h | h
  · exact h
  · subst h; rw [h1] at h2; cases h2
  · have := ltS_trans h h1; rw [this] at h2; cases h2
theorem ltS_le_lt {x y z : ByteArray} (h1 : ltS y x = false) (h2 : ltS y z = true) : ltS x z = true := by
  rcases ltS_tri x z with h | h | h
  · exact h
  · subst h; rw [h2] at h1; cases h1
  · have := ltS_trans h2 h; rw [this] at h1; cases h1
set_option maxHeartbeats 1000000 in
theorem child_any {w : World} {p : Nat} {v1 v2 v3 : Value} {K : List ByteArray} {V : List Int} {C : List Nat} (h : NodeAt w p v1 v2 v3 K V C) (key : ByteArray) (hs : SortedS K) (hl : K.length ≤ 1000000) :
    Calls Try.prog 39 #[.pointer (some ⟨p, 0, none⟩), .string key] w fun e w' => ∃ i : Nat, e = .returned (.int .i64 i) ∧ ChildP K key i ∧ w = w' := by
  obtain ⟨a, c, hv, hrow⟩ := h.str
  have d0 := h.blk.cell (i := 0) rfl
  rw [hv] at d0
  have HB := Lib.hid (bsearch_any K key a c w.heap.size w hrow (by omega) hs)
  have HS := Lib.hid hs
  have hlen := hl
  obtain ⟨n, hn⟩ : ∃ n, K.length = n := ⟨_, rfl⟩
  have HN := Lib.hid hn
  rw [hn] at d0 HB hlen
  clear h hv hrow hs hl hn
  go_enter Try.func39, Try.ntmps39
  go_wp2_with fail
  refine HB.out.mono ?_
  rintro e w' ⟨rfl, r, rfl, hr, hlo, hhi⟩
  by_cases hf : K[r]? = some key
  · have HR : Hid (ChildP K key (r + 1)) := Lib.hid (by
      have hrl := (List.getElem?_eq_some_iff.1 hf).1
      refine ⟨by omega, fun j x hj hx => ?_, fun j x hj hx => HS.out r j key x (by omega) hf hx⟩
      by_cases hjr : j = r
      · subst hjr; rw [hf] at hx; injection hx with hx; subst hx; exact ltS_irrefl _
      · exact ltS_asymm (hlo j x (by omega) hx))
    have hrn : r ≤ n := by have := HN.out; omega
    clear hlo hhi hr
    rw [decide_eq_true hf]
    clear hf
    go_wp2_with fail
    go_ret
    exact ⟨r + 1, by go_num, HR.out, rfl⟩
  · have HR : Hid (ChildP K key r) := Lib.hid (by
      refine ⟨hr, fun j x hj hx => ltS_asymm (hlo j x hj hx), fun j x hj hx => ?_⟩
      have h1 := hhi j x hj hx
      rcases ltS_tri key x with h | h | h
      · exact h
      · subst h
        by_cases hjr : j = r
        · subst hjr; exact absurd hx hf
        · obtain ⟨y, hy⟩ : ∃ y, K[r]? = some y := get_some (by have := (List.getElem?_eq_some_iff.1 hx).1; omega)
          have h2 := HS.out r j y key (by omega) hy hx
          rw [hhi r y (Nat.le_refl _) hy] at h2; cases h2
      · rw [h] at h1; cases h1)
    clear hlo hhi hr
    rw [decide_eq_false hf]
    clear hf
    go_wp2_with fail
    go_ret
    exact ⟨r, rfl, HR.out, rfl⟩
end Go.Proofs.Ytjoopjmcnkiieaa

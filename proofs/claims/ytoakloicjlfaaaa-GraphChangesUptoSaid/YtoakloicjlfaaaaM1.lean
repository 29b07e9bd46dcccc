/- The texts Base, Open, Tree, MayP, May, May2, Look, Parts, Own, Clone, CopyL, CopyP, Copy, Row, Miss, Ext, LawT of this seat, one behind the other. Conditions: each says its own. -/
import Derived.WalkKit
import Derived.ProofKit
import Derived.OpenShut
import Derived.WalkLawsBesides
import Derived.WalkSpells
import Derived.WalkSmall
import Derived.Lib.Hide
import Derived.Laws.AppendOwnNone
import Derived.Deep.Slices
import Derived.ChangeArms
import Derived.Test.YtoakloicjlfaaaaBulk
import Derived.Test.YtoakloicjlfaaaaRows
import Derived.Test.YtoakloicjlfaaaaProg
import Derived.Outline
import Derived.BigQuiet
import Derived.IntWalk
import Derived.OwnWalk
import Derived.Laws.OwnMore
import Derived.Laws.CopyOwn
import Derived.Handy
import Derived.Deep.AppendLies
import Derived.Deep.RegionLaw

/- Small lemmas on worlds, rows of cells and lists, used by the walks of this seat. Conditions: none. -/
namespace Go.Proofs.Ytoakloicjlfaaaa
open Go.RowKit

theorem below_step {B : Nat} {a b c : World} (h : Below B a b) (hB : B = a.heap.size) (k : Below b.heap.size b c) : Below B a c := h.trans (k.mono (by rw [hB]; exact h.size))

theorem Calls.below {P : Program} {f : FuncId} {args : Array Value} {w W : World} {v : Value} (h : Calls P f args w fun e w' => e = .returned v ∧ Below w.heap.size w w') (hb : Below W.heap.size W w) :
    Calls P f args w fun e w' => e = .returned v ∧ Below W.heap.size W w' := h.mono fun _ _ ⟨he, hk⟩ => ⟨he, below_step hb rfl hk⟩

theorem addr_add (b off i : Nat) : (⟨b, off, none⟩ : Addr).add i = ⟨b, off + i, none⟩ := by
  by_cases h : i = 0 <;> simp [Addr.add, h]

/-- The cells from an address on hold these values; the block lies below B. -/
def Cells (B : Nat) (w : World) (a : Option Addr) (vs : List Value) : Prop :=
  vs = [] ∨ ∃ b off, a = some ⟨b, off, none⟩ ∧ b < B ∧ ∀ (i : Nat) v, vs[i]? = some v → w.cell? ⟨b, off + i, none⟩ = some v

theorem Cells.nil {B : Nat} {w : World} {a : Option Addr} : Cells B w a [] := .inl rfl

theorem Cells.below {B B' : Nat} {w w' : World} {a : Option Addr} {vs : List Value} (h : Cells B w a vs) (hb : Below B' w w') (hB : B ≤ B') : Cells B w' a vs := by
  rcases h with h | ⟨b, off, h1, h2, h3⟩
  · exact .inl h
  · exact .inr ⟨b, off, h1, h2, fun i v hi => by rw [hb.cell (by show b < B'; omega)]; exact h3 i v hi⟩

theorem Cells.mono {B B' : Nat} {w : World} {a : Option Addr} {vs : List Value} (h : Cells B w a vs) (hB : B ≤ B') : Cells B' w a vs := by
  rcases h with h | ⟨b, off, h1, h2, h3⟩
  · exact .inl h
  · exact .inr ⟨b, off, h1, by omega, h3⟩

/-- A row of one-cell values that the call owns reads as cells. -/
theorem Cells.of_own {base : Nat} {w : World} {e : TypeId} {v : Value} {n : Nat} {xs : List Value} (h : w.ownsRow base e 1 v n xs) :
    ∃ a cap, v = .slice a n cap ∧ Cells w.heap.size w a xs := by
  obtain ⟨hl, h1⟩ := h
  rcases h1 with ⟨rfl, rfl⟩ | ⟨g, cap, cur, rfl, hg, hh, hn, hm, hs, ht⟩
  · exact ⟨none, 0, rfl, .inl (by simpa using hl)⟩
  · refine ⟨_, _, rfl, .inr ⟨g, 0, rfl, ?_, fun i v hi => ?_⟩⟩
    · exact (Array.getElem?_eq_some_iff.1 hh).1
    · have := World.ownsRow.cells (w := w) (base := base) (e := e) (size := 1) (v := .slice (some ⟨g, 0, none⟩) n cap) ⟨hl, .inr ⟨g, cap, cur, rfl, hg, hh, hn, hm, hs, ht⟩⟩ (g := g) rfl i v hi
      simpa [addr_add] using this

/-- append of a row of one-cell values, wherever it lies, to a row that the call owns. -/
theorem append_cells {P : Program} {w : World} {ops : Array Oper} {rest : List Oper} {o : Oper} {a : Act} {Q : Exit → Act → World → Prop} (hgd : o.guard = none) (s x : Operand) (t : TypeId)
    (ho : o.op = .call { callee := .builtin .append, args := #[s, x], argTypes := #[t, t] })
    (base : Nat) (e : TypeId) (i : TypeInfo) (z : Value) (bytes : Nat) (ht : P.underlying t = some (.slice e)) (hi : P.info? e = some i) (hz : i.zero = some z)
    (hsize : i.size = 1) (hby : i.bytes = bytes) (hzs : z.cells.size = 1)
    (v : Value) (n : Nat) (xs : List Value) (hs : a.eval s = v) (hown : w.ownsRow base e 1 v n xs)
    (ad : Option Addr) (m c B : Nat) (news : List Value) (hx : a.eval x = .slice ad m c) (hnone : ad = none → c = 0) (hl : news.length = m) (hc : Cells B w ad news) (h1 : ∀ u ∈ news, u.oneCell' = true)
    (h63 : n + m ≤ maxLen) (hbytes : (n + m) * bytes ≤ 140737488355328) (hbase : base ≤ w.heap.size)
    (h : ∀ v' w', w'.ownsRow base e 1 v' (n + m) (xs ++ news) → w.grownBy w' v.ownBlock → wpList P ops Q rest (a.put o.dst v') w') : wpList P ops Q (o :: rest) a w := by
  cases ad with
  | none =>
    have hn : news = [] := by
      rcases hc with h | ⟨b, off, h, _⟩
      · exact h
      · cases h
    subst hn
    obtain rfl : m = 0 := by simpa using hl.symm
    obtain rfl := hnone rfl
    exact wpList_append_own_none hgd s x t ho base e i 1 ht hi v n xs hs hown hx (h v w (by simpa using hown) ⟨rfl, rfl, rfl, Nat.le_refl _, fun _ _ _ => rfl⟩)
  | some ad =>
    refine wpList_append_own _ hgd s x t ho base e i z 1 bytes ht hi hz hsize hby hzs (by decide) v n xs hs hown ad m c news hx (by omega) (fun j u hj => ?_) h1 h63 hbytes hbase (fun v' w' h2 h3 _ => h v' w' h2 h3)
    rcases hc with h | ⟨b, off, h, _, hc⟩
    · subst h; simp at hj
    · cases h; rw [addr_add]; exact hc j u hj

/-- A block that may be written, all of whose cells are known. -/
def Block (w : World) (b : Nat) (cur : List Value) (t : TypeId) : Prop := w.heap[b]? = some (.cells cur.toArray t (0, 0))
theorem Block.lt {w : World} {b : Nat} {cur : List Value} {t : TypeId} (h : Block w b cur t) : b < w.heap.size := (Array.getElem?_eq_some_iff.1 h).1
theorem Block.cell {w : World} {b : Nat} {cur : List Value} {t : TypeId} (h : Block w b cur t) {i : Nat} {v : Value} (hi : cur[i]? = some v) : w.cell? ⟨b, i, none⟩ = some v := by
  unfold Block at h; simp [World.cell?, h, hi]
theorem Block.free {w : World} {b : Nat} {cur : List Value} {t : TypeId} (h : Block w b cur t) (i : Nat) : w.frozen? ⟨b, i, none⟩ = false := by
  unfold Block at h; simp [World.frozen?, h]
theorem Block.set {w : World} {b : Nat} {cur : List Value} {t : TypeId} (h : Block w b cur t) (i : Nat) (v : Value) : Block (w.setCell ⟨b, i, none⟩ v) b (cur.set i v) t := by
  have hlt := h.lt
  unfold Block at *
  have h' : w.heap[b] = .cells cur.toArray t (0, 0) := by simpa [Array.getElem?_eq_getElem hlt] using h
  show (w.heap.modify b _)[b]? = _
  rw [Array.getElem?_eq_getElem (by simpa using hlt), Array.getElem_modify_self, h']
  simp
theorem Block.of_heap {w w' : World} {b : Nat} {cur : List Value} {t : TypeId} (h : Block w b cur t) (hh : w'.heap[b]? = w.heap[b]?) : Block w' b cur t := hh.trans h
theorem Block.below {B : Nat} {w w' : World} {b : Nat} {cur : List Value} {t : TypeId} (h : Block w b cur t) (hb : Below B w w') (hB : b < B) : Block w' b cur t := h.of_heap (hb.block b hB)
theorem Block.set_other {w : World} {b : Nat} {cur : List Value} {t : TypeId} (h : Block w b cur t) {a : Addr} (ha : b ≠ a.block) (v : Value) : Block (w.setCell a v) b cur t := h.of_heap (Below.heap_setCell _ _ _ _ ha)
theorem Block.alloc {w : World} {b : Nat} {cur : List Value} {t : TypeId} (h : Block w b cur t) (o : Obj) : Block (w.alloc o) b cur t := h.of_heap (Below.heap_alloc _ _ _ h.lt)
theorem Block.new (w : World) (cur : List Value) (t : TypeId) : Block (w.alloc (.cells cur.toArray t)) w.heap.size cur t := by
  show (w.heap.push _)[w.heap.size]? = _
  simp
theorem Block.drew {w : World} {b : Nat} {cur : List Value} {t : TypeId} (h : Block w b cur t) : Block w.drew b cur t := h

/-- Of what was there in w nothing has turned but the blocks of own. -/
structure Kept (own : List Nat) (w w' : World) : Prop where
  os : w'.os = w.os
  tape : w'.tape = w.tape
  output : w'.output = w.output
  size : w.heap.size ≤ w'.heap.size
  block : ∀ k, k < w.heap.size → k ∉ own → w'.heap[k]? = w.heap[k]?
theorem Kept.refl (own : List Nat) (w : World) : Kept own w w := ⟨rfl, rfl, rfl, Nat.le_refl _, fun _ _ _ => rfl⟩
theorem Kept.trans {own own' : List Nat} {a b c : World} (h : Kept own a b) (k : Kept own' b c) (hs : ∀ x ∈ own', x ∈ own ∨ a.heap.size ≤ x) : Kept own a c :=
  ⟨k.os.trans h.os, k.tape.trans h.tape, k.output.trans h.output, Nat.le_trans h.size k.size, fun x hx hn => by
    rw [k.block x (Nat.lt_of_lt_of_le hx h.size) (fun hm => by rcases hs x hm with h1 | h1; exact hn h1; omega), h.block x hx hn]⟩
theorem Kept.below {own : List Nat} {B : Nat} {w w' : World} (h : Kept own w w') (hB : ∀ x ∈ own, B ≤ x) (hs : B ≤ w.heap.size) : Below B w w' :=
  ⟨h.os, h.tape, h.output, h.size, fun k hk => h.block k (by omega) (fun hm => by have := hB k hm; omega)⟩
theorem Kept.of_below {own : List Nat} {w w' : World} (h : Below w.heap.size w w') : Kept own w w' := ⟨h.os, h.tape, h.output, h.size, fun k hk _ => h.block k hk⟩
theorem Kept.setCell {own : List Nat} {a w : World} (h : Kept own a w) {p : Addr} (hp : p.block ∈ own ∨ a.heap.size ≤ p.block) (v : Value) : Kept own a (w.setCell p v) :=
  ⟨h.os, h.tape, h.output, by simpa [World.setCell] using h.size, fun k hk hn => by
    rw [Below.heap_setCell _ _ _ _ (fun e => by subst e; rcases hp with hp | hp; exact hn hp; omega), h.block k hk hn]⟩
theorem Kept.alloc {own : List Nat} {a w : World} (h : Kept own a w) (o : Obj) : Kept own a (w.alloc o) :=
  ⟨h.os, h.tape, h.output, by have := h.size; simp; omega, fun k hk hn => by rw [Below.heap_alloc _ _ _ (Nat.lt_of_lt_of_le hk h.size), h.block k hk hn]⟩
theorem Kept.drew {own : List Nat} {a w : World} (h : Kept own a w) : Kept own a w.drew := ⟨h.os, h.tape, h.output, h.size, h.block⟩
theorem Kept.drewN {own : List Nat} {a w : World} (h : Kept own a w) (n : Nat) : Kept own a (w.drewN n) := ⟨h.os, h.tape, h.output, h.size, h.block⟩
theorem Kept.grown {own : List Nat} {a w w' : World} {row : Option Nat} (h : Kept own a w) (hg : w.grownBy w' row) (hr : ∀ k, row = some k → k ∈ own ∨ a.heap.size ≤ k) : Kept own a w' :=
  ⟨hg.os.trans h.os, hg.tape.trans h.tape, hg.output.trans h.output, Nat.le_trans h.size hg.size, fun k hk hn => by
    rw [hg.block k (Nat.lt_of_lt_of_le hk h.size) (fun e => by rcases hr k e.symm with h1 | h1; exact hn h1; omega), h.block k hk hn]⟩

theorem take_succ_some {α : Type} {l : List α} {k : Nat} {x : α} (h : l[k]? = some x) : l.take (k + 1) = l.take k ++ [x] := by
  rw [List.take_add_one, h]; rfl
theorem foldl_take_succ {α β : Type} (f : β → α → β) (z : β) {l : List α} {k : Nat} {x : α} (h : l[k]? = some x) : (l.take (k + 1)).foldl f z = f ((l.take k).foldl f z) x := by
  rw [take_succ_some h, List.foldl_append]; rfl
theorem foldl_stop {α β : Type} (f : β → α → β) (s : β) (hs : ∀ y, f s y = s) : ∀ l : List α, l.foldl f s = s
  | [] => rfl
  | y :: l => by rw [List.foldl_cons, hs, foldl_stop f s hs l]
theorem foldl_take_stop {α β : Type} (f : β → α → β) (z s : β) (hs : ∀ y, f s y = s) {l : List α} {k : Nat} {x : α} (h : l[k]? = some x) (hx : f ((l.take k).foldl f z) x = s) : l.foldl f z = s := by
  have h1 : l = l.take (k + 1) ++ l.drop (k + 1) := (List.take_append_drop _ _).symm
  rw [h1, List.foldl_append, foldl_take_succ f z h, hx, foldl_stop f s hs]

/-- A slice of integers that came in, as the proof's frame opens it. -/
def IsRow (k : IntKind) (w : World) (a : Option Addr) (len cap : Nat) (zs : List Int) : Prop :=
  (a = none ∧ len = 0 ∧ cap = 0 ∧ zs = []) ∨
  ∃ x, a = some x ∧ len ≤ cap ∧ cap ≤ maxLen ∧ zs.length = cap ∧ (∀ i, i < zs.length → w.cell? (x.add i) = some (.int k (zs.getD i 0))) ∧ ∀ n ∈ zs, (Lit.int k n).wf = true

theorem IsRow.capz {k : IntKind} {w : World} {a : Option Addr} {len cap : Nat} {zs : List Int} (h : IsRow k w a len cap zs) : a = none → cap = 0 := by
  rcases h with ⟨_, _, h, _⟩ | ⟨x, h, _⟩
  · exact fun _ => h
  · intro h'; rw [h'] at h; cases h

theorem IsRow.len_le {k : IntKind} {w : World} {a : Option Addr} {len cap : Nat} {zs : List Int} (h : IsRow k w a len cap zs) : len ≤ cap := by
  rcases h with ⟨_, h, _, _⟩ | ⟨x, _, h, _⟩ <;> omega

theorem IsRow.cells {k : IntKind} {w : World} {a : Option Addr} {len cap : Nat} {zs : List Int} (h : IsRow k w a len cap zs) :
    ∃ ys : List Int, ys = zs.take len ∧ ys.length = len ∧ len ≤ maxLen ∧ Cells w.heap.size w a (ys.map (.int k)) := by
  rcases h with ⟨rfl, rfl, rfl, rfl⟩ | ⟨x, rfl, hl, hm, hz, hc, _⟩
  · exact ⟨[], rfl, rfl, Nat.zero_le _, .inl rfl⟩
  · refine ⟨_, rfl, by simp; omega, by omega, ?_⟩
    by_cases h0 : len = 0
    · subst h0; exact .inl (by simp)
    · obtain ⟨b, off, spot⟩ := x
      have h1 := hc 0 (by omega)
      have hspot : spot = none := by simpa [Addr.add] using World.cell?_spot h1
      subst hspot
      refine .inr ⟨b, off, rfl, by simpa [Addr.add] using World.block_lt_of_cell? w _ h1, fun i v hi => ?_⟩
      rw [List.getElem?_map] at hi
      obtain ⟨n, hn, rfl⟩ := Option.map_eq_some_iff.1 hi
      have hi2 : i < zs.length := by
        have := (List.getElem?_eq_some_iff.1 hn).1; simp at this; omega
      have hn' : zs[i]? = some n := by rw [List.getElem?_take] at hn; split at hn <;> simp_all
      have h2 := hc i hi2
      rw [List.getD_eq_getElem?_getD, hn', addr_add] at h2
      exact h2
end Go.Proofs.Ytoakloicjlfaaaa

/- A slice that came in, read as a row of elements of whatever kind: each element's cells. Conditions: each element's reading tells its cells. -/
namespace Go.Proofs.Ytoakloicjlfaaaa
open Go.RowKit Go.Deep Go.ChangeShapes Go.WideShapes

theorem spot_none {w : World} {a : Addr} {v : Value} (h : w.cell? a = some v) : a = ⟨a.block, a.off, none⟩ := by
  have := World.cell?_spot h
  cases a; simp_all

theorem flat_get {α : Type} {f : α → List Value} {size : Nat} {os : List α} (hf : ∀ o ∈ os, (f o).length = size) {i : Nat} {v : Value} (h : (os.flatMap f)[i]? = some v) :
    ∃ k j o, i = k * size + j ∧ j < size ∧ os[k]? = some o ∧ (f o)[j]? = some v := by
  induction os generalizing i with
  | nil => simp at h
  | cons o os ih =>
    have h0 := hf o (by simp)
    rw [List.flatMap_cons] at h
    by_cases hi : i < size
    · rw [List.getElem?_append_left (by omega)] at h
      exact ⟨0, i, o, by omega, hi, rfl, h⟩
    · rw [List.getElem?_append_right (by omega), h0] at h
      obtain ⟨k, j, u, h1, h2, h3, h4⟩ := ih (fun u hu => hf u (by simp [hu])) h
      refine ⟨k + 1, j, u, ?_, h2, by simpa using h3, h4⟩
      rw [Nat.succ_mul]; omega

theorem choose_list {α : Type} {p : Nat → α → Prop} {n : Nat} (h : ∀ i, i < n → ∃ o, p i o) : ∃ os : List α, os.length = n ∧ ∀ (i : Nat) o, os[i]? = some o → p i o := by
  induction n with
  | zero => exact ⟨[], rfl, by simp⟩
  | succ n ih =>
    obtain ⟨os, h1, h2⟩ := ih (fun i hi => h i (by omega))
    obtain ⟨o, ho⟩ := h n (by omega)
    refine ⟨os ++ [o], by simp [h1], fun i u hu => ?_⟩
    by_cases hin : i < os.length
    · rw [List.getElem?_append_left hin] at hu; exact h2 i u hu
    · rw [List.getElem?_append_right (by omega)] at hu
      have : i = n := by
        have := (List.getElem?_eq_some_iff.1 hu).1
        simp at this; omega
      subst this
      rw [show i - os.length = 0 from by omega] at hu
      simp at hu; subst hu; exact ho

theorem open_rows {H : Type} {enc : TypeId × Value → H} {P : Program} {w : World} {base : Nat} {spare : Nat → Bool} {held : Bool} {α : Type} (f : α → List Value) (size : Nat) {t e : TypeId} {fuel : Nat} {a : Option Addr} {len cap : Nat} {x : DataW H × List MemPlace}
    (ht : P.underlying t = some (.slice e)) (hC : P.cellsOf e = size)
    (hel : ∀ (n : Nat) (cs : List Value) (y : DataW H × List MemPlace), cs.length = size → DataW.trod enc P w base spare held n e cs = some y → ∃ o : α, cs = f o)
    (h : DataW.trod enc P w base spare held fuel t [.slice a len cap] = some x) :
    ∃ os : List α, os.length = len ∧ len ≤ cap ∧ cap ≤ maxLen ∧ (a = none → cap = 0) ∧ (∀ o ∈ os, (f o).length = size) ∧ Cells w.heap.size w a (os.flatMap f) := by
  rcases open_slice ht h with ⟨h0, _⟩ | ⟨b, l, c, m, n, D, Pl, hcs, hb, hl, hm, hmm, hx, hi⟩
  · injection h0 with h0; injection h0 with h1 h2 h3; subst h1 h2 h3
    exact ⟨[], rfl, Nat.le_refl _, Nat.zero_le _, fun _ => rfl, by simp, .inl rfl⟩
  · injection hcs with h0; injection h0 with h1 h2 h3; subst h1 h2 h3
    have hlm : len ≤ m := by subst hmm; split <;> omega
    have hex : ∀ i, i < len → ∃ o : α, (f o).length = size ∧ ∀ j v, (f o)[j]? = some v → w.cell? (b.add (i * size + j)) = some v := by
      intro i hil
      obtain ⟨cs', hc, ht'⟩ := hi i (by omega)
      rw [hC] at hc
      obtain ⟨_, hcl, hat⟩ := World.cells?_some hc
      obtain ⟨o, rfl⟩ := hel n cs' _ hcl ht'
      refine ⟨o, hcl, fun j v hj => ?_⟩
      have hjl : j < size := by rw [← hcl]; exact (List.getElem?_eq_some_iff.1 hj).1
      rw [← Go.Deep.add_add, hat j hjl, hj]
    obtain ⟨os, h1, h2⟩ := choose_list hex
    refine ⟨os, h1, hl, hm, (fun h => by cases h), fun o ho => ?_, ?_⟩
    · obtain ⟨i, hi⟩ := List.getElem?_of_mem ho
      exact (h2 i o hi).1
    · have hlen : ∀ o ∈ os, (f o).length = size := fun o ho => by obtain ⟨i, hi⟩ := List.getElem?_of_mem ho; exact (h2 i o hi).1
      by_cases hne : os.flatMap f = []
      · exact .inl hne
      · obtain ⟨v0, hv0⟩ : ∃ v, (os.flatMap f)[0]? = some v := by
          cases hq : os.flatMap f with
          | nil => exact absurd hq hne
          | cons v t => exact ⟨v, rfl⟩
        have hall : ∀ (i : Nat) v, (os.flatMap f)[i]? = some v → w.cell? (b.add i) = some v := fun i v hv => by
          obtain ⟨k, j, o, rfl, _, ho, hj⟩ := flat_get hlen hv
          exact (h2 k o ho).2 j v hj
        have hc0 := hall 0 v0 hv0
        have hsp : b = ⟨b.block, b.off, none⟩ := by
          have h0 : b.add 0 = b := by cases b; simp [Addr.add]
          rw [h0] at hc0; exact spot_none hc0
        refine .inr ⟨b.block, b.off, by rw [← hsp], ?_, fun i v hv => ?_⟩
        · have h0 : b.add 0 = b := by cases b; simp [Addr.add]
          rw [h0] at hc0; exact World.block_lt_of_cell? w _ hc0
        · have := hall i v hv
          rw [hsp, addr_add] at this; exact this

/-- One field of a struct that is read, if it takes one cell: its cell is read. -/
theorem one_field {H : Type} {enc : TypeId × Value → H} {P : Program} {w : World} {base : Nat} {spare : Nat → Bool} {held : Bool} {fs : Array Field} {m : Nat} {cs : List Value} {xs : List (DataW H × List MemPlace)}
    (hl : xs.length = fs.size) (hf : ∀ (i : Nat) (f : Field), fs[i]? = some f → DataW.trod enc P w base spare held m f.type ((cs.drop f.offset).take (P.cellsOf f.type)) = xs[i]?)
    (i : Nat) (f : Field) (hi : fs[i]? = some f) (hc : P.cellsOf f.type = 1) (c : Value) (hcs : cs[f.offset]? = some c) : ∃ y, DataW.trod enc P w base spare held m f.type [c] = some y := by
  have h1 := hf i f hi
  have h2 := (Array.getElem?_eq_some_iff.1 hi).1
  obtain ⟨h3, h4⟩ := List.getElem?_eq_some_iff.1 hcs
  rw [hc, List.drop_eq_getElem_cons h3, h4] at h1
  exact ⟨_, h1.trans (List.getElem?_eq_getElem (by omega))⟩
theorem int_field {H : Type} {enc : TypeId × Value → H} {P : Program} {w : World} {base : Nat} {spare : Nat → Bool} {held : Bool} {fs : Array Field} {m : Nat} {cs : List Value} {xs : List (DataW H × List MemPlace)}
    (hl : xs.length = fs.size) (hf : ∀ (i : Nat) (f : Field), fs[i]? = some f → DataW.trod enc P w base spare held m f.type ((cs.drop f.offset).take (P.cellsOf f.type)) = xs[i]?)
    (i : Nat) (f : Field) (hi : fs[i]? = some f) (hc : P.cellsOf f.type = 1) (c : Value) (hcs : cs[f.offset]? = some c) {k : IntKind} (hu : P.underlying f.type = some (.int k)) : ∃ n, c = .int k n := by
  obtain ⟨y, hy⟩ := one_field hl hf i f hi hc c hcs
  obtain ⟨n, h1, _⟩ := DataW.trod_int hu hy
  injection h1 with h1
  exact ⟨n, h1⟩

/-- One element of such a row: its cells. -/
theorem Cells.elem {α : Type} {f : α → List Value} {size : Nat} {B : Nat} {w : World} {a : Option Addr} {os : List α} (h : Cells B w a (os.flatMap f)) (hf : ∀ o ∈ os, (f o).length = size) (hs : 0 < size) {k : Nat} {o : α} (hk : os[k]? = some o) :
    ∃ b off, a = some ⟨b, off, none⟩ ∧ b < B ∧ ∀ j v, (f o)[j]? = some v → w.cell? ⟨b, off + (k * size + j), none⟩ = some v := by
  have key : ∀ (os : List α) (k : Nat), (∀ o ∈ os, (f o).length = size) → os[k]? = some o → ∀ j v, (f o)[j]? = some v → (os.flatMap f)[k * size + j]? = some v := by
    intro os
    induction os with
    | nil => intro k _ h; simp at h
    | cons u os ih =>
      intro k hf hk j v hj
      have h0 := hf u (by simp)
      rw [List.flatMap_cons]
      cases k with
      | zero =>
        simp at hk; subst hk
        have := (List.getElem?_eq_some_iff.1 hj).1
        rw [Nat.zero_mul, Nat.zero_add, List.getElem?_append_left this]; exact hj
      | succ k =>
        rw [List.getElem?_append_right (by rw [Nat.succ_mul]; omega), h0, show (k + 1) * size + j - size = k * size + j from by rw [Nat.succ_mul]; omega]
        exact ih k (fun o ho => hf o (by simp [ho])) (by simpa using hk) j v hj
  rcases h with h | ⟨b, off, h1, h2, h3⟩
  · exfalso
    have hm := List.mem_of_getElem? hk
    have hl := hf o hm
    cases hq : f o with
    | nil => rw [hq] at hl; simp at hl; omega
    | cons v t =>
      have := key os k hf hk 0 v (by rw [hq]; rfl)
      rw [h] at this; simp at this
  · exact ⟨b, off, h1, h2, fun j v hj => h3 _ _ (key os k hf hk j v hj)⟩
end Go.Proofs.Ytoakloicjlfaaaa

/- Values (api.Value) as trees: what lies in memory, and how it is read. Conditions: none. -/
namespace Go.Proofs.Ytoakloicjlfaaaa
open Go.RowKit Go.Deep Go.ChangeShapes Go.WideShapes
set_option linter.unusedVariables false

/-- A value of the language. -/
inductive Vt where
  | mk (kind : Int) (bool : Bool) (int : Int) (str : ByteArray) (list : List Vt) (keys : List ByteArray)
def in64 (n : Int) : Prop := -9223372036854775808 ≤ n ∧ n ≤ 9223372036854775807
/-- A row of texts. -/
def StrRow (B : Nat) (w : World) (a : Option Addr) (ks : List ByteArray) : Prop := Cells B w a (ks.map Value.string)
mutual
/-- These cells are that value (all its memory lies below block B). -/
def IsV (B : Nat) (w : World) : List Value → Vt → Prop
  | cs, .mk k b i s l ks => ∃ la lc ka kc, cs = [.int .i64 k, .bool b, .int .i64 i, .string s, .slice la l.length lc, .slice ka ks.length kc] ∧ in64 k ∧ in64 i ∧ (l.length ≤ lc ∧ lc ≤ 9223372036854775807) ∧ (ks.length ≤ kc ∧ kc ≤ 9223372036854775807) ∧
      (la = none → lc = 0) ∧ (ka = none → kc = 0) ∧ StrRow B w ka ks ∧ IsVs B w la 0 l
/-- From element n on a row holds those values. -/
def IsVs (B : Nat) (w : World) : Option Addr → Nat → List Vt → Prop
  | _, _, [] => True
  | a, n, t :: ts => (∃ b off cs, a = some ⟨b, off, none⟩ ∧ b < B ∧ (∀ j v, cs[j]? = some v → w.cell? ⟨b, off + (n * 6 + j), none⟩ = some v) ∧ IsV B w cs t) ∧ IsVs B w a (n + 1) ts
end
mutual
/-- How much a value weighs. -/
def wtV : Vt → Nat
  | .mk _ _ _ s l ks => 1 + s.size + (ks.map fun k => k.size + 1).sum + wtVs l
def wtVs : List Vt → Nat
  | [] => 0
  | t :: ts => wtV t + wtVs ts
end
theorem wtV_pos (t : Vt) : 1 ≤ wtV t := by cases t; unfold wtV; omega
theorem wtVs_sum (l : List Vt) : wtVs l = (l.map wtV).sum := by
  induction l with
  | nil => simp [wtVs]
  | cons t ts ih => simp [wtVs, ih]
theorem wtVs_len (l : List Vt) : l.length ≤ wtVs l := by
  induction l with
  | nil => simp
  | cons t ts ih => have := wtV_pos t; simp only [wtVs, List.length_cons]; omega
theorem wtVs_get {l : List Vt} {i : Nat} {t : Vt} (h : l[i]? = some t) : wtV t ≤ wtVs l := by
  induction l generalizing i with
  | nil => simp at h
  | cons u us ih =>
    cases i with
    | zero => simp at h; subst h; simp only [wtVs]; omega
    | succ i => have := ih (i := i) (by simpa using h); simp only [wtVs]; omega
/-- Going down a value. -/
theorem Vt.down {p : Vt → Prop} (h : ∀ k b i s l ks, (∀ (j : Nat) t, l[j]? = some t → p t) → p (.mk k b i s l ks)) (t : Vt) : p t := by
  induction hn : wtV t using Nat.strongRecOn generalizing t with
  | _ n ih =>
    obtain ⟨k, b, i, s, l, ks⟩ := t
    refine h k b i s l ks fun j t ht => ih (wtV t) ?_ t rfl
    have := wtVs_get ht
    rw [← hn]
    simp only [wtV]
    omega
/-- One element of such a row. -/
theorem IsVs.get {B : Nat} {w : World} {a : Option Addr} {l : List Vt} : ∀ {n : Nat}, IsVs B w a n l → ∀ (i : Nat) (t : Vt), l[i]? = some t →
    ∃ b off cs, a = some ⟨b, off, none⟩ ∧ b < B ∧ (∀ j v, cs[j]? = some v → w.cell? ⟨b, off + ((n + i) * 6 + j), none⟩ = some v) ∧ IsV B w cs t := by
  induction l with
  | nil => intro n _ i t h; simp at h
  | cons u us ih =>
    intro n h i t ht
    unfold IsVs at h
    cases i with
    | zero => simp at ht; subst ht; exact h.1
    | succ i =>
      have := ih h.2 i t (by simpa using ht)
      rwa [show n + 1 + i = n + (i + 1) from by omega] at this
theorem IsVs.mk {B : Nat} {w : World} {a : Option Addr} {l : List Vt} : ∀ {n : Nat}, (∀ (i : Nat) (t : Vt), l[i]? = some t →
    ∃ b off cs, a = some ⟨b, off, none⟩ ∧ b < B ∧ (∀ j v, cs[j]? = some v → w.cell? ⟨b, off + ((n + i) * 6 + j), none⟩ = some v) ∧ IsV B w cs t) → IsVs B w a n l := by
  induction l with
  | nil => intro n _; simp [IsVs]
  | cons u us ih =>
    intro n h
    unfold IsVs
    exact ⟨h 0 u rfl, ih fun i t ht => by
      have := h (i + 1) t (by simpa using ht)
      rwa [show n + (i + 1) = n + 1 + i from by omega] at this⟩
theorem IsV.below {B B' : Nat} {w w' : World} (hb : Below B' w w') (hB : B ≤ B') (t : Vt) : ∀ cs, IsV B w cs t → IsV B w' cs t := by
  refine t.down (p := fun t => ∀ cs, IsV B w cs t → IsV B w' cs t) fun k b i s l ks ih cs h => ?_
  unfold IsV at h ⊢
  obtain ⟨la, lc, ka, kc, h1, h2, h3, h4, h5, h6, h7, h8, h9⟩ := h
  refine ⟨la, lc, ka, kc, h1, h2, h3, h4, h5, h6, h7, h8.below hb hB, IsVs.mk fun j t ht => ?_⟩
  obtain ⟨b, off, cs', g1, g2, g3, g4⟩ := h9.get j t ht
  exact ⟨b, off, cs', g1, g2, fun q v hv => by rw [hb.cell (by show b < B'; omega)]; exact g3 q v hv, ih j t ht cs' g4⟩
theorem IsV.mono {B B' : Nat} {w : World} (hB : B ≤ B') (t : Vt) : ∀ cs, IsV B w cs t → IsV B' w cs t := by
  refine t.down (p := fun t => ∀ cs, IsV B w cs t → IsV B' w cs t) fun k b i s l ks ih cs h => ?_
  unfold IsV at h ⊢
  obtain ⟨la, lc, ka, kc, h1, h2, h3, h4, h5, h6, h7, h8, h9⟩ := h
  refine ⟨la, lc, ka, kc, h1, h2, h3, h4, h5, h6, h7, h8.mono hB, IsVs.mk fun j t ht => ?_⟩
  obtain ⟨b, off, cs', g1, g2, g3, g4⟩ := h9.get j t ht
  exact ⟨b, off, cs', g1, by omega, g3, ih j t ht cs' g4⟩

theorem bulkAll_sum {H : Type} (l : List (DataW H)) : Rows.uptoBulkAll l = (l.map Rows.uptoBulk).sum := by
  induction l with
  | nil => rfl
  | cons x l ih => simp [Rows.uptoBulkAll, ih]
theorem sum_le {α : Type} (f : α → Nat) (g : Nat → Nat) : ∀ (os : List α) (k : Nat), (∀ (i : Nat) o, os[i]? = some o → f o ≤ g (k + i)) → (os.map f).sum ≤ ((List.range' k os.length).map g).sum := by
  intro os
  induction os with
  | nil => intro k _; simp
  | cons o os ih =>
    intro k h
    have h0 := h 0 o rfl
    have := ih (k + 1) (fun i u hu => by have := h (i + 1) u (by simpa using hu); rwa [show k + 1 + i = k + (i + 1) from by omega])
    simp only [List.map_cons, List.sum_cons, List.length_cons, List.range'_succ]
    rw [Nat.add_zero] at h0
    omega
theorem sum_get {α : Type} (f : α → Nat) {l : List α} {i : Nat} {x : α} (h : l[i]? = some x) : f x ≤ (l.map f).sum := by
  induction l generalizing i with
  | nil => simp at h
  | cons u us ih =>
    cases i with
    | zero => simp at h; subst h; simp only [List.map_cons, List.sum_cons]; omega
    | succ i => have := ih (i := i) (by simpa using h); simp only [List.map_cons, List.sum_cons]; omega
/-- A slice that came in, read element by element, whatever an element's reading tells; the elements' bulks are less than the slice's. -/
theorem open_rowsP {H : Type} {enc : TypeId × Value → H} {P : Program} {w : World} {base : Nat} {spare : Nat → Bool} {held : Bool} {α : Type} (R : List Value → α → Prop) (wt : α → Nat) (size : Nat) {t e : TypeId} {fuel : Nat} {c : Value} {x : DataW H × List MemPlace}
    (ht : P.underlying t = some (.slice e)) (hC : P.cellsOf e = size) (hs0 : 0 < size)
    (hel : ∀ (n : Nat) (cs : List Value) (y : DataW H × List MemPlace), Rows.uptoBulk y.1 < Rows.uptoBulk x.1 → cs.length = size → DataW.trod enc P w base spare held n e cs = some y → ∃ o : α, R cs o ∧ wt o ≤ Rows.uptoBulk y.1)
    (h : DataW.trod enc P w base spare held fuel t [c] = some x) :
    ∃ (a : Option Addr) (cap : Nat) (os : List α), c = .slice a os.length cap ∧ (os.length ≤ cap ∧ cap ≤ 9223372036854775807) ∧ (a = none → cap = 0) ∧ (os.map wt).sum + 1 ≤ Rows.uptoBulk x.1 ∧
      ∀ (i : Nat) (o : α), os[i]? = some o → ∃ b off cs, a = some ⟨b, off, none⟩ ∧ b < w.heap.size ∧ cs.length = size ∧ (∀ j v, cs[j]? = some v → w.cell? ⟨b, off + (i * size + j), none⟩ = some v) ∧ R cs o := by
  rcases open_slice ht h with ⟨h0, hx⟩ | ⟨b, l, cp, m, n, D, Pl, hcs, hb, hl, hm, hmm, hx, hi⟩
  · injection h0 with h0
    subst h0 hx
    exact ⟨none, 0, [], rfl, ⟨Nat.le_refl _, by omega⟩, fun _ => rfl, by simp [Rows.uptoBulk], fun i o h => by simp at h⟩
  · injection hcs with h0
    subst h0
    have hlm : l ≤ m := by subst hmm; split <;> omega
    have hxb : Rows.uptoBulk x.1 = Rows.uptoBulkAll ((List.range l).map D) + Rows.uptoBulkAll ((List.range (m - l)).map fun j => D (l + j)) + 1 := by rw [hx]; rfl
    have hD : ∀ i, i < l → Rows.uptoBulk (D i) < Rows.uptoBulk x.1 := fun i hil => by
      have := sum_get Rows.uptoBulk (l := (List.range l).map D) (i := i) (x := D i) (by simp [hil])
      rw [← bulkAll_sum] at this
      omega
    have hex : ∀ i, i < l → ∃ o : α, (∃ cs, cs.length = size ∧ (∀ j v, cs[j]? = some v → w.cell? (b.add (i * size + j)) = some v) ∧ R cs o) ∧ wt o ≤ Rows.uptoBulk (D i) := by
      intro i hil
      obtain ⟨cs', hc, ht'⟩ := hi i (by omega)
      rw [hC] at hc
      obtain ⟨_, hcl, hat⟩ := World.cells?_some hc
      obtain ⟨o, hR, hle⟩ := hel n cs' _ (hD i hil) hcl ht'
      refine ⟨o, ⟨cs', hcl, fun j v hj => ?_, hR⟩, hle⟩
      have hjl : j < size := by rw [← hcl]; exact (List.getElem?_eq_some_iff.1 hj).1
      rw [← Go.Deep.add_add, hat j hjl, hj]
    obtain ⟨os, h1, h2⟩ := choose_list hex
    have hsum : (os.map wt).sum ≤ Rows.uptoBulkAll ((List.range l).map D) := by
      have := sum_le wt (fun i => Rows.uptoBulk (D i)) os 0 (fun i o ho => by rw [Nat.zero_add]; exact (h2 i o ho).2)
      rw [bulkAll_sum, List.map_map, List.range_eq_range', ← h1]; exact this
    subst h1
    refine ⟨some b, cp, os, rfl, ⟨hl, hm⟩, (fun h => by cases h), by omega, fun i o ho => ?_⟩
    obtain ⟨⟨cs, g1, g2, g3⟩, _⟩ := h2 i o ho
    obtain ⟨v0, hv0⟩ : ∃ v, cs[0]? = some v := ⟨cs[0], List.getElem?_eq_getElem (by omega)⟩
    have hsp : b = ⟨b.block, b.off, none⟩ := by
      have hi0 : 0 < os.length := by have := (List.getElem?_eq_some_iff.1 ho).1; omega
      obtain ⟨⟨cs', k1, k2, _⟩, _⟩ := h2 0 os[0] (List.getElem?_eq_getElem hi0)
      have h1 := k2 0 cs'[0] (List.getElem?_eq_getElem (by omega))
      have h2 : b.add (0 * size + 0) = b := by rw [Nat.zero_mul]; rfl
      rw [h2] at h1
      exact spot_none h1
    refine ⟨b.block, b.off, cs, by rw [← hsp], ?_, g1, fun j v hv => ?_, g3⟩
    · have := World.block_lt_of_cell? w _ (g2 0 v0 hv0)
      rw [hsp, addr_add] at this
      exact this
    · have := g2 j v hv
      rw [hsp, addr_add] at this
      exact this
/-- A slice of texts. -/
theorem open_strs {H : Type} {enc : TypeId × Value → H} {w : World} {base : Nat} {spare : Nat → Bool} {held : Bool} {fuel : Nat} {c : Value} {x : DataW H × List MemPlace}
    (h : DataW.trod enc Try.prog w base spare held fuel 35 [c] = some x) :
    ∃ (a : Option Addr) (cap : Nat) (ks : List ByteArray), c = .slice a ks.length cap ∧ (ks.length ≤ cap ∧ cap ≤ 9223372036854775807) ∧ (a = none → cap = 0) ∧ (ks.map fun k => k.size + 1).sum + 1 ≤ Rows.uptoBulk x.1 ∧ StrRow w.heap.size w a ks := by
  obtain ⟨a, cap, ks, h1, h2, h3, h4, h5⟩ := open_rowsP (fun cs (k : ByteArray) => cs = [.string k]) (fun k => k.size + 1) 1 Try.underlying35 (by kernel_rfl) (by omega) (fun n cs y _ hcl hy => by
    obtain ⟨s, rfl, hy1, _⟩ := DataW.trod_string Try.underlying9 hy
    refine ⟨s, rfl, ?_⟩
    rw [hy1]
    simp [Rows.uptoBulk]) h
  refine ⟨a, cap, ks, h1, h2, h3, h4, ?_⟩
  by_cases hk : ks = []
  · subst hk; exact .inl rfl
  obtain ⟨k0, hk0⟩ : ∃ k, ks[0]? = some k := by
    cases ks with
    | nil => exact absurd rfl hk
    | cons k _ => exact ⟨k, rfl⟩
  obtain ⟨b, off, _, hab, hbl, _⟩ := h5 0 k0 hk0
  refine .inr ⟨b, off, hab, hbl, fun i v hv => ?_⟩
  rw [List.getElem?_map] at hv
  cases hki : ks[i]? with
  | none => rw [hki] at hv; cases hv
  | some k =>
    rw [hki] at hv
    cases hv
    obtain ⟨b', off', cs, hab', _, _, hc, rfl⟩ := h5 i k hki
    rw [hab] at hab'
    cases hab'
    have := hc 0 _ rfl
    rwa [Nat.mul_one, Nat.add_zero] at this
/-- One field's reading. -/
theorem field_trod {H : Type} {enc : TypeId × Value → H} {P : Program} {w : World} {base : Nat} {spare : Nat → Bool} {held : Bool} {fs : Array Field} {m : Nat} {cs : List Value} {xs : List (DataW H × List MemPlace)}
    (hl : xs.length = fs.size) (hf : ∀ (i : Nat) (f : Field), fs[i]? = some f → DataW.trod enc P w base spare held m f.type ((cs.drop f.offset).take (P.cellsOf f.type)) = xs[i]?)
    (i : Nat) (f : Field) (hi : fs[i]? = some f) (hc : P.cellsOf f.type = 1) (c : Value) (hcs : cs[f.offset]? = some c) : ∃ y, xs[i]? = some y ∧ DataW.trod enc P w base spare held m f.type [c] = some y := by
  have h1 := hf i f hi
  have h2 := (Array.getElem?_eq_some_iff.1 hi).1
  obtain ⟨h3, h4⟩ := List.getElem?_eq_some_iff.1 hcs
  rw [hc, List.drop_eq_getElem_cons h3, h4] at h1
  exact ⟨_, List.getElem?_eq_getElem (by omega), h1.trans (List.getElem?_eq_getElem (by omega))⟩
theorem in64_of_wf {n : Int} (h : (Lit.int .i64 n).wf = true) : in64 n := by
  simp only [Lit.wf, Bool.and_eq_true, decide_eq_true_eq] at h
  have h1 : IntKind.i64.min = -9223372036854775808 := by decide
  have h2 : IntKind.i64.max = 9223372036854775807 := by decide
  rw [h1, h2] at h
  exact h
set_option maxRecDepth 100000 in
/-- A value that came in is a tree. -/
theorem open_value {H : Type} {enc : TypeId × Value → H} {w : World} {base : Nat} {spare : Nat → Bool} {held : Bool} : ∀ (k : Nat) (fuel : Nat) (cs : List Value) (x : DataW H × List MemPlace), Rows.uptoBulk x.1 ≤ k →
    DataW.trod enc Try.prog w base spare held fuel 71 cs = some x → ∃ t : Vt, IsV w.heap.size w cs t ∧ wtV t ≤ Rows.uptoBulk x.1 := by
  intro k
  induction k with
  | zero =>
    intro fuel cs x hk h
    obtain ⟨xs, n, _, hx, _⟩ := DataW.trod_struct Try.underlying71 h
    rw [hx] at hk
    simp [Rows.uptoBulk] at hk
  | succ k ih =>
    intro fuel cs x hk h
    obtain ⟨xs, n, _, hx, hcl, hxl, hf⟩ := DataW.trod_struct Try.underlying71 h
    have hcl6 : cs.length = 6 := hcl.trans (by kernel_rfl)
    obtain ⟨c0, c1, c2, c3, c4, c5, rfl⟩ : ∃ c0 c1 c2 c3 c4 c5, cs = [c0, c1, c2, c3, c4, c5] := by
      match cs, hcl6 with
      | [c0, c1, c2, c3, c4, c5], _ => exact ⟨c0, c1, c2, c3, c4, c5, rfl⟩
    obtain ⟨y0, e0, t0⟩ := field_trod hxl hf 0 _ rfl (by kernel_rfl) c0 rfl
    obtain ⟨y1, e1, t1⟩ := field_trod hxl hf 1 _ rfl (by kernel_rfl) c1 rfl
    obtain ⟨y2, e2, t2⟩ := field_trod hxl hf 2 _ rfl (by kernel_rfl) c2 rfl
    obtain ⟨y3, e3, t3⟩ := field_trod hxl hf 3 _ rfl (by kernel_rfl) c3 rfl
    obtain ⟨y4, e4, t4⟩ := field_trod hxl hf 4 _ rfl (by kernel_rfl) c4 rfl
    obtain ⟨y5, e5, t5⟩ := field_trod hxl hf 5 _ rfl (by kernel_rfl) c5 rfl
    have hxs : xs = [y0, y1, y2, y3, y4, y5] := by
      apply List.ext_getElem?
      intro i
      by_cases hi : i < 6
      · have : i = 0 ∨ i = 1 ∨ i = 2 ∨ i = 3 ∨ i = 4 ∨ i = 5 := by omega
        rcases this with rfl | rfl | rfl | rfl | rfl | rfl
        · exact e0
        · exact e1
        · exact e2
        · exact e3
        · exact e4
        · exact e5
      · rw [List.getElem?_eq_none (by rw [hxl]; show 6 ≤ i; omega), List.getElem?_eq_none (by show 6 ≤ i; omega)]
    obtain ⟨n0, g0, -, w0⟩ := DataW.trod_int Try.underlying3 t0
    obtain ⟨b1, g1, -⟩ := DataW.trod_bool Try.underlying4 t1
    obtain ⟨n2, g2, -, w2⟩ := DataW.trod_int Try.underlying2 t2
    obtain ⟨s3, g3, z3, -⟩ := DataW.trod_string Try.underlying9 t3
    have hbx : Rows.uptoBulk x.1 = Rows.uptoBulk y0.1 + (Rows.uptoBulk y1.1 + (Rows.uptoBulk y2.1 + (Rows.uptoBulk y3.1 + (Rows.uptoBulk y4.1 + Rows.uptoBulk y5.1)))) + 1 := by
      rw [hx, hxs]; simp [Rows.uptoBulk, Rows.uptoBulkAll]
    obtain ⟨la, lc, os, g4, l4, z4, s4, r4⟩ := open_rowsP (IsV w.heap.size w) wtV 6 Try.underlying36 (by kernel_rfl) (by omega) (fun n cs y hy _ hh => ih n cs y (by omega) hh) t4
    obtain ⟨ka, kc, ks, g5, l5, z5, s5, r5⟩ := open_strs t5
    injection g0 with g0
    injection g1 with g1
    injection g2 with g2
    injection g3 with g3
    subst g0 g1 g2 g3 g4 g5
    refine ⟨.mk n0 b1 n2 s3 os ks, ?_, ?_⟩
    · unfold IsV
      refine ⟨la, lc, ka, kc, rfl, in64_of_wf w0, in64_of_wf w2, l4, l5, z4, z5, r5, IsVs.mk fun i t ht => ?_⟩
      obtain ⟨b, off, cs, q1, q2, _, q4, q5⟩ := r4 i t ht
      exact ⟨b, off, cs, q1, q2, by rwa [Nat.zero_add], q5⟩
    · have h3 : Rows.uptoBulk y3.1 = s3.size + 1 := by rw [z3]; simp [Rows.uptoBulk]
      simp only [wtV]
      rw [wtVs_sum]
      omega
end Go.Proofs.Ytoakloicjlfaaaa

/- Which values may be, in plain trees. Conditions: none. -/
namespace Go.Proofs.Ytoakloicjlfaaaa
open Go.RowKit
set_option linter.unusedVariables false

def strLe (x y : ByteArray) : Bool := Op.bytesLess x.toList y.toList || x.toList == y.toList
def kOk (ks : List ByteArray) (i : Nat) : Bool := match ks[i]? with
  | none => true
  | some x => decide (1 ≤ x.size ∧ x.size ≤ 64) && (match ks[i - 1]? with | none => true | some y => decide (i = 0) || !strLe x y)
def keysOk (ks : List ByteArray) : Bool := decide (∀ i, i < ks.length → kOk ks i = true)
def unusedV (k : Int) (b : Bool) (i : Int) (s : ByteArray) (n m : Nat) : Bool :=
  decide ((k = 1 ∨ b = false) ∧ (k = 2 ∨ k = 6 ∨ k = 7 ∨ i = 0) ∧ (k = 3 ∨ s.size = 0) ∧ (k = 4 ∨ k = 5 ∨ n = 0) ∧ (k = 5 ∨ m = 0))
/-- What stands in a value's own cells is as it may be. -/
def headOk (k : Int) (b : Bool) (i : Int) (s : ByteArray) (n : Nat) (ks : List ByteArray) (deep : Int) (parts : Nat) : Bool :=
  decide (parts + 1 ≤ 4096 ∧ 1 ≤ deep ∧ 0 ≤ k ∧ k ≤ 7 ∧ unusedV k b i s n ks.length = true ∧ ¬ ((k = 6 ∨ k = 7) ∧ i < 1) ∧ (k = 5 → ks.length = n ∧ keysOk ks = true))
mutual
def mayV : Vt → Int → Nat → Nat × Bool
  | .mk k b i s l ks, deep, parts => if headOk k b i s l.length ks deep parts then mayVs l (deep - 1) (parts + 1) else (parts + 1, false)
def mayVs : List Vt → Int → Nat → Nat × Bool
  | [], _, parts => (parts, true)
  | t :: ts, deep, parts => match mayV t deep parts with | (n, false) => (n, false) | (n, true) => mayVs ts deep n
end
def mayB (t : Vt) : Bool := (mayV t 32 0).2
theorem mayVs_le (d : Int) (l : List Vt) (h : ∀ (j : Nat) t, l[j]? = some t → ∀ d p, p ≤ 4096 → (mayV t d p).1 ≤ 4097 ∧ ((mayV t d p).2 = true → (mayV t d p).1 ≤ 4096)) :
    ∀ p, p ≤ 4096 → (mayVs l d p).1 ≤ 4097 ∧ ((mayVs l d p).2 = true → (mayVs l d p).1 ≤ 4096) := by
  induction l with
  | nil => intro p hp; simp only [mayVs]; exact ⟨by omega, fun _ => hp⟩
  | cons t ts ih =>
    intro p hp
    have h0 := h 0 t rfl d p hp
    simp only [mayVs]
    cases hm : mayV t d p with
    | mk n ok =>
      rw [hm] at h0
      cases ok with
      | false => exact ⟨h0.1, fun h => by cases h⟩
      | true => exact ih (fun j t ht => h (j + 1) t (by simpa using ht)) n (h0.2 rfl)
theorem mayV_le (t : Vt) : ∀ d p, p ≤ 4096 → (mayV t d p).1 ≤ 4097 ∧ ((mayV t d p).2 = true → (mayV t d p).1 ≤ 4096) := by
  refine t.down (p := fun t => ∀ d p, p ≤ 4096 → (mayV t d p).1 ≤ 4097 ∧ ((mayV t d p).2 = true → (mayV t d p).1 ≤ 4096)) fun k b i s l ks ih d p hp => ?_
  unfold mayV
  cases hh : headOk k b i s l.length ks d p with
  | false => simp; omega
  | true =>
    have : p + 1 ≤ 4096 := by have := of_decide_eq_true hh; exact this.1
    exact mayVs_le (d - 1) l ih (p + 1) this
/-- One step through a list. -/
theorem mayVs_step {l : List Vt} {i : Nat} {t : Vt} (h : l[i]? = some t) (d : Int) (p : Nat) : mayVs (l.drop i) d p = match mayV t d p with | (n, false) => (n, false) | (n, true) => mayVs (l.drop (i + 1)) d n := by
  obtain ⟨h1, h2⟩ := List.getElem?_eq_some_iff.1 h
  rw [List.drop_eq_getElem_cons h1, h2, mayVs]
/-- All that lies within a value that may be. -/
theorem mayV_parts {t : Vt} {d : Int} {p : Nat} (h : (mayV t d p).2 = true) : ∃ k b i s l ks, t = .mk k b i s l ks ∧ headOk k b i s l.length ks d p = true ∧ ∀ (j : Nat) u, l[j]? = some u → ∃ q, (mayV u (d - 1) q).2 = true := by
  obtain ⟨k, b, i, s, l, ks⟩ := t
  refine ⟨k, b, i, s, l, ks, rfl, ?_⟩
  unfold mayV at h
  cases hh : headOk k b i s l.length ks d p with
  | false => rw [hh] at h; cases h
  | true =>
    rw [hh, if_pos rfl] at h
    refine ⟨rfl, ?_⟩
    clear hh
    generalize p + 1 = q at h
    induction l generalizing q with
    | nil => intro j u hu; simp at hu
    | cons t ts ih =>
      intro j u hu
      simp only [mayVs] at h
      cases hm : mayV t (d - 1) q with
      | mk n ok =>
        rw [hm] at h
        cases ok with
        | false => cases h
        | true =>
          cases j with
          | zero => simp at hu; subst hu; exact ⟨q, by rw [hm]⟩
          | succ j => exact ih n h j u (by simpa using hu)
end Go.Proofs.Ytoakloicjlfaaaa

/- The contracts of unused, may and May (wattleref03) over trees. Written by genmay.py. Conditions: none. -/
namespace Go.Proofs.Ytoakloicjlfaaaa
open Go.RowKit
set_option linter.unusedSimpArgs false
set_option linter.unusedVariables false

theorem below_draws {B : Nat} {a w : World} (h : Below B a w) (n : Nat) : Below B a (w.drewN n) := by
  induction n with
  | zero => exact h
  | succ n ih => exact ih.drew
theorem ba_list (s : ByteArray) : s.toList = s.data.toList := by
  have h0 : ∀ l : List UInt8, (ByteArray.mk l.toArray).toList = l := fun l => by simp
  have h := h0 s.data.toList
  rwa [show (⟨s.data.toList.toArray⟩ : ByteArray) = s from by apply ByteArray.ext; simp] at h
theorem str_empty {s : ByteArray} (h : s.size = 0) : s.toList = [] ∧ s.toList.isEmpty = true := by
  have h1 : s.toList = [] := by rw [ba_list]; exact List.length_eq_zero_iff.1 (by simpa using h)
  exact ⟨h1, by rw [h1]; rfl⟩
theorem str_full {s : ByteArray} (h : ¬ s.size = 0) : ¬ s.toList = [] ∧ s.toList.isEmpty = false := by
  have h1 : ¬ s.toList = [] := fun hh => h (by rw [ba_list] at hh; have := congrArg List.length hh; simpa using this)
  exact ⟨h1, by rw [List.isEmpty_eq_false_iff]; exact h1⟩

set_option maxRecDepth 100000 in
set_option maxHeartbeats 4000000 in
theorem unused_any (k : Int) (b : Bool) (i : Int) (s : ByteArray) (la ka : Option Addr) (n lc m kc : Nat) (w : World) :
    Calls Try.prog 106 #[.agg #[.int .i64 k, .bool b, .int .i64 i, .string s, .slice la n lc, .slice ka m kc]] w fun e w' => e = .returned (.bool (unusedV k b i s n m)) ∧ Below w.heap.size w w' := by
  by_cases k1 : k = 1
  · subst k1
    by_cases hi : i = 0
    rotate_left
    · have hib : (i != 0) = true := by simp; exact hi
      have HV := Lib.hid (show unusedV (1 : Int) b i s n m = false from decide_eq_false (fun hh => by rcases hh with ⟨h1, h2, h3, h4, h5⟩; first | omega | (simp_all; done) | (simp_all; omega)))
      rw [HV.out]
      go_enter Try.func106, Try.ntmps106
      go_wp2_with fail
      go_ret
      exact ⟨rfl, (Below.refl _ _).alloc (Nat.le_refl _) _⟩
    have hib : (i != 0) = false := by simp; exact hi
    have HI := Lib.hid hi
    clear hi
    by_cases hs : s.size = 0
    rotate_left
    · obtain ⟨hs1, hs2⟩ := str_full hs
      have HV := Lib.hid (show unusedV (1 : Int) b i s n m = false from decide_eq_false (fun hh => by rcases hh with ⟨h1, h2, h3, h4, h5⟩; first | omega | (simp_all; done) | (simp_all; omega)))
      rw [HV.out]
      go_enter Try.func106, Try.ntmps106
      go_wp2_with fail
      go_ret
      exact ⟨rfl, (Below.refl _ _).alloc (Nat.le_refl _) _⟩
    obtain ⟨hs1, hs2⟩ := str_empty hs
    have HS := Lib.hid hs
    clear hs
    by_cases hn : n = 0
    rotate_left
    · have hn1 : (0 : Int) < n := by omega
      have HV := Lib.hid (show unusedV (1 : Int) b i s n m = false from decide_eq_false (fun hh => by rcases hh with ⟨h1, h2, h3, h4, h5⟩; first | omega | (simp_all; done) | (simp_all; omega)))
      rw [HV.out]
      go_enter Try.func106, Try.ntmps106
      go_wp2_with fail
      go_ret
      exact ⟨rfl, (Below.refl _ _).alloc (Nat.le_refl _) _⟩
    have hn1 : ¬ (0 : Int) < n := by omega
    have HN := Lib.hid hn
    clear hn
    by_cases hm : m = 0
    rotate_left
    · have hm1 : ((m : Int) == 0) = false := by simp; exact hm
      have HV := Lib.hid (show unusedV (1 : Int) b i s n m = false from decide_eq_false (fun hh => by rcases hh with ⟨h1, h2, h3, h4, h5⟩; first | omega | (simp_all; done) | (simp_all; omega)))
      rw [HV.out]
      go_enter Try.func106, Try.ntmps106
      go_wp2_with fail
      go_ret
      exact ⟨rfl, (Below.refl _ _).alloc (Nat.le_refl _) _⟩
    have hm1 : ((m : Int) == 0) = true := by simp; exact hm
    have HM := Lib.hid hm
    clear hm
    have HV := Lib.hid (show unusedV (1 : Int) b i s n m = true from decide_eq_true (by have h0 := HI.out; have h1 := HS.out; have h2 := HN.out; have h3 := HM.out; simp [*]))
    rw [HV.out]
    go_enter Try.func106, Try.ntmps106
    go_wp2_with fail
    go_ret
    exact ⟨rfl, (Below.refl _ _).alloc (Nat.le_refl _) _⟩
  have p1 : (k == 1) = false := by simp; exact k1
  have r1 : (k != 1) = true := by simp; exact k1
  by_cases k2 : k = 2
  · subst k2
    by_cases hb : b = true
    · subst hb
      have HV := Lib.hid (show unusedV (2 : Int) true i s n m = false from decide_eq_false (fun hh => by rcases hh with ⟨h1, h2, h3, h4, h5⟩; first | omega | (simp_all; done) | (simp_all; omega)))
      rw [HV.out]
      go_enter Try.func106, Try.ntmps106
      go_wp2_with fail
      go_ret
      exact ⟨rfl, (Below.refl _ _).alloc (Nat.le_refl _) _⟩
    have hb : b = false := by simpa using hb
    subst hb
    by_cases hs : s.size = 0
    rotate_left
    · obtain ⟨hs1, hs2⟩ := str_full hs
      have HV := Lib.hid (show unusedV (2 : Int) false i s n m = false from decide_eq_false (fun hh => by rcases hh with ⟨h1, h2, h3, h4, h5⟩; first | omega | (simp_all; done) | (simp_all; omega)))
      rw [HV.out]
      go_enter Try.func106, Try.ntmps106
      go_wp2_with fail
      go_ret
      exact ⟨rfl, (Below.refl _ _).alloc (Nat.le_refl _) _⟩
    obtain ⟨hs1, hs2⟩ := str_empty hs
    have HS := Lib.hid hs
    clear hs
    by_cases hn : n = 0
    rotate_left
    · have hn1 : (0 : Int) < n := by omega
      have HV := Lib.hid (show unusedV (2 : Int) false i s n m = false from decide_eq_false (fun hh => by rcases hh with ⟨h1, h2, h3, h4, h5⟩; first | omega | (simp_all; done) | (simp_all; omega)))
      rw [HV.out]
      go_enter Try.func106, Try.ntmps106
      go_wp2_with fail
      go_ret
      exact ⟨rfl, (Below.refl _ _).alloc (Nat.le_refl _) _⟩
    have hn1 : ¬ (0 : Int) < n := by omega
    have HN := Lib.hid hn
    clear hn
    by_cases hm : m = 0
    rotate_left
    · have hm1 : ((m : Int) == 0) = false := by simp; exact hm
      have HV := Lib.hid (show unusedV (2 : Int) false i s n m = false from decide_eq_false (fun hh => by rcases hh with ⟨h1, h2, h3, h4, h5⟩; first | omega | (simp_all; done) | (simp_all; omega)))
      rw [HV.out]
      go_enter Try.func106, Try.ntmps106
      go_wp2_with fail
      go_ret
      exact ⟨rfl, (Below.refl _ _).alloc (Nat.le_refl _) _⟩
    have hm1 : ((m : Int) == 0) = true := by simp; exact hm
    have HM := Lib.hid hm
    clear hm
    have HV := Lib.hid (show unusedV (2 : Int) false i s n m = true from decide_eq_true (by have h0 := HS.out; have h1 := HN.out; have h2 := HM.out; simp [*]))
    rw [HV.out]
    go_enter Try.func106, Try.ntmps106
    go_wp2_with fail
    go_ret
    exact ⟨rfl, (Below.refl _ _).alloc (Nat.le_refl _) _⟩
  have p2 : (k == 2) = false := by simp; exact k2
  have r2 : (k != 2) = true := by simp; exact k2
  by_cases k3 : k = 3
  · subst k3
    by_cases hb : b = true
    · subst hb
      have HV := Lib.hid (show unusedV (3 : Int) true i s n m = false from decide_eq_false (fun hh => by rcases hh with ⟨h1, h2, h3, h4, h5⟩; first | omega | (simp_all; done) | (simp_all; omega)))
      rw [HV.out]
      go_enter Try.func106, Try.ntmps106
      go_wp2_with fail
      go_ret
      exact ⟨rfl, (Below.refl _ _).alloc (Nat.le_refl _) _⟩
    have hb : b = false := by simpa using hb
    subst hb
    by_cases hi : i = 0
    rotate_left
    · have hib : (i != 0) = true := by simp; exact hi
      have HV := Lib.hid (show unusedV (3 : Int) false i s n m = false from decide_eq_false (fun hh => by rcases hh with ⟨h1, h2, h3, h4, h5⟩; first | omega | (simp_all; done) | (simp_all; omega)))
      rw [HV.out]
      go_enter Try.func106, Try.ntmps106
      go_wp2_with fail
      go_ret
      exact ⟨rfl, (Below.refl _ _).alloc (Nat.le_refl _) _⟩
    have hib : (i != 0) = false := by simp; exact hi
    have HI := Lib.hid hi
    clear hi
    by_cases hn : n = 0
    rotate_left
    · have hn1 : (0 : Int) < n := by omega
      have HV := Lib.hid (show unusedV (3 : Int) false i s n m = false from decide_eq_false (fun hh => by rcases hh with ⟨h1, h2, h3, h4, h5⟩; first | omega | (simp_all; done) | (simp_all; omega)))
      rw [HV.out]
      go_enter Try.func106, Try.ntmps106
      go_wp2_with fail
      go_ret
      exact ⟨rfl, (Below.refl _ _).alloc (Nat.le_refl _) _⟩
    have hn1 : ¬ (0 : Int) < n := by omega
    have HN := Lib.hid hn
    clear hn
    by_cases hm : m = 0
    rotate_left
    · have hm1 : ((m : Int) == 0) = false := by simp; exact hm
      have HV := Lib.hid (show unusedV (3 : Int) false i s n m = false from decide_eq_false (fun hh => by rcases hh with ⟨h1, h2, h3, h4, h5⟩; first | omega | (simp_all; done) | (simp_all; omega)))
      rw [HV.out]
      go_enter Try.func106, Try.ntmps106
      go_wp2_with fail
      go_ret
      exact ⟨rfl, (Below.refl _ _).alloc (Nat.le_refl _) _⟩
    have hm1 : ((m : Int) == 0) = true := by simp; exact hm
    have HM := Lib.hid hm
    clear hm
    have HV := Lib.hid (show unusedV (3 : Int) false i s n m = true from decide_eq_true (by have h0 := HI.out; have h1 := HN.out; have h2 := HM.out; simp [*]))
    rw [HV.out]
    go_enter Try.func106, Try.ntmps106
    go_wp2_with fail
    go_ret
    exact ⟨rfl, (Below.refl _ _).alloc (Nat.le_refl _) _⟩
  have p3 : (k == 3) = false := by simp; exact k3
  have r3 : (k != 3) = true := by simp; exact k3
  by_cases k4 : k = 4
  · subst k4
    by_cases hb : b = true
    · subst hb
      have HV := Lib.hid (show unusedV (4 : Int) true i s n m = false from decide_eq_false (fun hh => by rcases hh with ⟨h1, h2, h3, h4, h5⟩; first | omega | (simp_all; done) | (simp_all; omega)))
      rw [HV.out]
      go_enter Try.func106, Try.ntmps106
      go_wp2_with fail
      go_ret
      exact ⟨rfl, (Below.refl _ _).alloc (Nat.le_refl _) _⟩
    have hb : b = false := by simpa using hb
    subst hb
    by_cases hi : i = 0
    rotate_left
    · have hib : (i != 0) = true := by simp; exact hi
      have HV := Lib.hid (show unusedV (4 : Int) false i s n m = false from decide_eq_false (fun hh => by rcases hh with ⟨h1, h2, h3, h4, h5⟩; first | omega | (simp_all; done) | (simp_all; omega)))
      rw [HV.out]
      go_enter Try.func106, Try.ntmps106
      go_wp2_with fail
      go_ret
      exact ⟨rfl, (Below.refl _ _).alloc (Nat.le_refl _) _⟩
    have hib : (i != 0) = false := by simp; exact hi
    have HI := Lib.hid hi
    clear hi
    by_cases hs : s.size = 0
    rotate_left
    · obtain ⟨hs1, hs2⟩ := str_full hs
      have HV := Lib.hid (show unusedV (4 : Int) false i s n m = false from decide_eq_false (fun hh => by rcases hh with ⟨h1, h2, h3, h4, h5⟩; first | omega | (simp_all; done) | (simp_all; omega)))
      rw [HV.out]
      go_enter Try.func106, Try.ntmps106
      go_wp2_with fail
      go_ret
      exact ⟨rfl, (Below.refl _ _).alloc (Nat.le_refl _) _⟩
    obtain ⟨hs1, hs2⟩ := str_empty hs
    have HS := Lib.hid hs
    clear hs
    by_cases hm : m = 0
    rotate_left
    · have hm1 : ((m : Int) == 0) = false := by simp; exact hm
      have HV := Lib.hid (show unusedV (4 : Int) false i s n m = false from decide_eq_false (fun hh => by rcases hh with ⟨h1, h2, h3, h4, h5⟩; first | omega | (simp_all; done) | (simp_all; omega)))
      rw [HV.out]
      go_enter Try.func106, Try.ntmps106
      go_wp2_with fail
      go_ret
      exact ⟨rfl, (Below.refl _ _).alloc (Nat.le_refl _) _⟩
    have hm1 : ((m : Int) == 0) = true := by simp; exact hm
    have HM := Lib.hid hm
    clear hm
    have HV := Lib.hid (show unusedV (4 : Int) false i s n m = true from decide_eq_true (by have h0 := HI.out; have h1 := HS.out; have h2 := HM.out; simp [*]))
    rw [HV.out]
    go_enter Try.func106, Try.ntmps106
    go_wp2_with fail
    go_ret
    exact ⟨rfl, (Below.refl _ _).alloc (Nat.le_refl _) _⟩
  have p4 : (k == 4) = false := by simp; exact k4
  have r4 : (k != 4) = true := by simp; exact k4
  by_cases k5 : k = 5
  · subst k5
    by_cases hb : b = true
    · subst hb
      have HV := Lib.hid (show unusedV (5 : Int) true i s n m = false from decide_eq_false (fun hh => by rcases hh with ⟨h1, h2, h3, h4, h5⟩; first | omega | (simp_all; done) | (simp_all; omega)))
      rw [HV.out]
      go_enter Try.func106, Try.ntmps106
      go_wp2_with fail
      go_ret
      exact ⟨rfl, (Below.refl _ _).alloc (Nat.le_refl _) _⟩
    have hb : b = false := by simpa using hb
    subst hb
    by_cases hi : i = 0
    rotate_left
    · have hib : (i != 0) = true := by simp; exact hi
      have HV := Lib.hid (show unusedV (5 : Int) false i s n m = false from decide_eq_false (fun hh => by rcases hh with ⟨h1, h2, h3, h4, h5⟩; first | omega | (simp_all; done) | (simp_all; omega)))
      rw [HV.out]
      go_enter Try.func106, Try.ntmps106
      go_wp2_with fail
      go_ret
      exact ⟨rfl, (Below.refl _ _).alloc (Nat.le_refl _) _⟩
    have hib : (i != 0) = false := by simp; exact hi
    have HI := Lib.hid hi
    clear hi
    by_cases hs : s.size = 0
    rotate_left
    · obtain ⟨hs1, hs2⟩ := str_full hs
      have HV := Lib.hid (show unusedV (5 : Int) false i s n m = false from decide_eq_false (fun hh => by rcases hh with ⟨h1, h2, h3, h4, h5⟩; first | omega | (simp_all; done) | (simp_all; omega)))
      rw [HV.out]
      go_enter Try.func106, Try.ntmps106
      go_wp2_with fail
      go_ret
      exact ⟨rfl, (Below.refl _ _).alloc (Nat.le_refl _) _⟩
    obtain ⟨hs1, hs2⟩ := str_empty hs
    have HS := Lib.hid hs
    clear hs
    have HV := Lib.hid (show unusedV (5 : Int) false i s n m = true from decide_eq_true (by have h0 := HI.out; have h1 := HS.out; simp [*]))
    rw [HV.out]
    go_enter Try.func106, Try.ntmps106
    go_wp2_with fail
    go_ret
    exact ⟨rfl, (Below.refl _ _).alloc (Nat.le_refl _) _⟩
  have p5 : (k == 5) = false := by simp; exact k5
  have r5 : (k != 5) = true := by simp; exact k5
  by_cases k6 : k = 6
  · subst k6
    by_cases hb : b = true
    · subst hb
      have HV := Lib.hid (show unusedV (6 : Int) true i s n m = false from decide_eq_false (fun hh => by rcases hh with ⟨h1, h2, h3, h4, h5⟩; first | omega | (simp_all; done) | (simp_all; omega)))
      rw [HV.out]
      go_enter Try.func106, Try.ntmps106
      go_wp2_with fail
      go_ret
      exact ⟨rfl, (Below.refl _ _).alloc (Nat.le_refl _) _⟩
    have hb : b = false := by simpa using hb
    subst hb
    by_cases hs : s.size = 0
    rotate_left
    · obtain ⟨hs1, hs2⟩ := str_full hs
      have HV := Lib.hid (show unusedV (6 : Int) false i s n m = false from decide_eq_false (fun hh => by rcases hh with ⟨h1, h2, h3, h4, h5⟩; first | omega | (simp_all; done) | (simp_all; omega)))
      rw [HV.out]
      go_enter Try.func106, Try.ntmps106
      go_wp2_with fail
      go_ret
      exact ⟨rfl, (Below.refl _ _).alloc (Nat.le_refl _) _⟩
    obtain ⟨hs1, hs2⟩ := str_empty hs
    have HS := Lib.hid hs
    clear hs
    by_cases hn : n = 0
    rotate_left
    · have hn1 : (0 : Int) < n := by omega
      have HV := Lib.hid (show unusedV (6 : Int) false i s n m = false from decide_eq_false (fun hh => by rcases hh with ⟨h1, h2, h3, h4, h5⟩; first | omega | (simp_all; done) | (simp_all; omega)))
      rw [HV.out]
      go_enter Try.func106, Try.ntmps106
      go_wp2_with fail
      go_ret
      exact ⟨rfl, (Below.refl _ _).alloc (Nat.le_refl _) _⟩
    have hn1 : ¬ (0 : Int) < n := by omega
    have HN := Lib.hid hn
    clear hn
    by_cases hm : m = 0
    rotate_left
    · have hm1 : ((m : Int) == 0) = false := by simp; exact hm
      have HV := Lib.hid (show unusedV (6 : Int) false i s n m = false from decide_eq_false (fun hh => by rcases hh with ⟨h1, h2, h3, h4, h5⟩; first | omega | (simp_all; done) | (simp_all; omega)))
      rw [HV.out]
      go_enter Try.func106, Try.ntmps106
      go_wp2_with fail
      go_ret
      exact ⟨rfl, (Below.refl _ _).alloc (Nat.le_refl _) _⟩
    have hm1 : ((m : Int) == 0) = true := by simp; exact hm
    have HM := Lib.hid hm
    clear hm
    have HV := Lib.hid (show unusedV (6 : Int) false i s n m = true from decide_eq_true (by have h0 := HS.out; have h1 := HN.out; have h2 := HM.out; simp [*]))
    rw [HV.out]
    go_enter Try.func106, Try.ntmps106
    go_wp2_with fail
    go_ret
    exact ⟨rfl, (Below.refl _ _).alloc (Nat.le_refl _) _⟩
  have p6 : (k == 6) = false := by simp; exact k6
  have r6 : (k != 6) = true := by simp; exact k6
  by_cases k7 : k = 7
  · subst k7
    by_cases hb : b = true
    · subst hb
      have HV := Lib.hid (show unusedV (7 : Int) true i s n m = false from decide_eq_false (fun hh => by rcases hh with ⟨h1, h2, h3, h4, h5⟩; first | omega | (simp_all; done) | (simp_all; omega)))
      rw [HV.out]
      go_enter Try.func106, Try.ntmps106
      go_wp2_with fail
      go_ret
      exact ⟨rfl, (Below.refl _ _).alloc (Nat.le_refl _) _⟩
    have hb : b = false := by simpa using hb
    subst hb
    by_cases hs : s.size = 0
    rotate_left
    · obtain ⟨hs1, hs2⟩ := str_full hs
      have HV := Lib.hid (show unusedV (7 : Int) false i s n m = false from decide_eq_false (fun hh => by rcases hh with ⟨h1, h2, h3, h4, h5⟩; first | omega | (simp_all; done) | (simp_all; omega)))
      rw [HV.out]
      go_enter Try.func106, Try.ntmps106
      go_wp2_with fail
      go_ret
      exact ⟨rfl, (Below.refl _ _).alloc (Nat.le_refl _) _⟩
    obtain ⟨hs1, hs2⟩ := str_empty hs
    have HS := Lib.hid hs
    clear hs
    by_cases hn : n = 0
    rotate_left
    · have hn1 : (0 : Int) < n := by omega
      have HV := Lib.hid (show unusedV (7 : Int) false i s n m = false from decide_eq_false (fun hh => by rcases hh with ⟨h1, h2, h3, h4, h5⟩; first | omega | (simp_all; done) | (simp_all; omega)))
      rw [HV.out]
      go_enter Try.func106, Try.ntmps106
      go_wp2_with fail
      go_ret
      exact ⟨rfl, (Below.refl _ _).alloc (Nat.le_refl _) _⟩
    have hn1 : ¬ (0 : Int) < n := by omega
    have HN := Lib.hid hn
    clear hn
    by_cases hm : m = 0
    rotate_left
    · have hm1 : ((m : Int) == 0) = false := by simp; exact hm
      have HV := Lib.hid (show unusedV (7 : Int) false i s n m = false from decide_eq_false (fun hh => by rcases hh with ⟨h1, h2, h3, h4, h5⟩; first | omega | (simp_all; done) | (simp_all; omega)))
      rw [HV.out]
      go_enter Try.func106, Try.ntmps106
      go_wp2_with fail
      go_ret
      exact ⟨rfl, (Below.refl _ _).alloc (Nat.le_refl _) _⟩
    have hm1 : ((m : Int) == 0) = true := by simp; exact hm
    have HM := Lib.hid hm
    clear hm
    have HV := Lib.hid (show unusedV (7 : Int) false i s n m = true from decide_eq_true (by have h0 := HS.out; have h1 := HN.out; have h2 := HM.out; simp [*]))
    rw [HV.out]
    go_enter Try.func106, Try.ntmps106
    go_wp2_with fail
    go_ret
    exact ⟨rfl, (Below.refl _ _).alloc (Nat.le_refl _) _⟩
  have p7 : (k == 7) = false := by simp; exact k7
  have r7 : (k != 7) = true := by simp; exact k7
  by_cases hb : b = true
  · subst hb
    have HV := Lib.hid (show unusedV k true i s n m = false from decide_eq_false (fun hh => by rcases hh with ⟨h1, h2, h3, h4, h5⟩; first | omega | (simp_all; done) | (simp_all; omega)))
    rw [HV.out]
    go_enter Try.func106, Try.ntmps106
    go_wp2_with fail
    go_ret
    exact ⟨rfl, (Below.refl _ _).alloc (Nat.le_refl _) _⟩
  have hb : b = false := by simpa using hb
  subst hb
  by_cases hi : i = 0
  rotate_left
  · have hib : (i != 0) = true := by simp; exact hi
    have HV := Lib.hid (show unusedV k false i s n m = false from decide_eq_false (fun hh => by rcases hh with ⟨h1, h2, h3, h4, h5⟩; first | omega | (simp_all; done) | (simp_all; omega)))
    rw [HV.out]
    go_enter Try.func106, Try.ntmps106
    go_wp2_with fail
    go_ret
    exact ⟨rfl, (Below.refl _ _).alloc (Nat.le_refl _) _⟩
  have hib : (i != 0) = false := by simp; exact hi
  have HI := Lib.hid hi
  clear hi
  by_cases hs : s.size = 0
  rotate_left
  · obtain ⟨hs1, hs2⟩ := str_full hs
    have HV := Lib.hid (show unusedV k false i s n m = false from decide_eq_false (fun hh => by rcases hh with ⟨h1, h2, h3, h4, h5⟩; first | omega | (simp_all; done) | (simp_all; omega)))
    rw [HV.out]
    go_enter Try.func106, Try.ntmps106
    go_wp2_with fail
    go_ret
    exact ⟨rfl, (Below.refl _ _).alloc (Nat.le_refl _) _⟩
  obtain ⟨hs1, hs2⟩ := str_empty hs
  have HS := Lib.hid hs
  clear hs
  by_cases hn : n = 0
  rotate_left
  · have hn1 : (0 : Int) < n := by omega
    have HV := Lib.hid (show unusedV k false i s n m = false from decide_eq_false (fun hh => by rcases hh with ⟨h1, h2, h3, h4, h5⟩; first | omega | (simp_all; done) | (simp_all; omega)))
    rw [HV.out]
    go_enter Try.func106, Try.ntmps106
    go_wp2_with fail
    go_ret
    exact ⟨rfl, (Below.refl _ _).alloc (Nat.le_refl _) _⟩
  have hn1 : ¬ (0 : Int) < n := by omega
  have HN := Lib.hid hn
  clear hn
  by_cases hm : m = 0
  rotate_left
  · have hm1 : ((m : Int) == 0) = false := by simp; exact hm
    have HV := Lib.hid (show unusedV k false i s n m = false from decide_eq_false (fun hh => by rcases hh with ⟨h1, h2, h3, h4, h5⟩; first | omega | (simp_all; done) | (simp_all; omega)))
    rw [HV.out]
    go_enter Try.func106, Try.ntmps106
    go_wp2_with fail
    go_ret
    exact ⟨rfl, (Below.refl _ _).alloc (Nat.le_refl _) _⟩
  have hm1 : ((m : Int) == 0) = true := by simp; exact hm
  have HM := Lib.hid hm
  clear hm
  have HV := Lib.hid (show unusedV k false i s n m = true from decide_eq_true (by have h0 := HI.out; have h1 := HS.out; have h2 := HN.out; have h3 := HM.out; simp [*]))
  rw [HV.out]
  go_enter Try.func106, Try.ntmps106
  go_wp2_with fail
  go_ret
  exact ⟨rfl, (Below.refl _ _).alloc (Nat.le_refl _) _⟩
end Go.Proofs.Ytoakloicjlfaaaa

/- The contracts of may and May (wattleref03) over trees. Written by genmay2.py. Conditions: none. -/
namespace Go.Proofs.Ytoakloicjlfaaaa
open Go.RowKit
set_option linter.unusedSimpArgs false
set_option linter.unusedVariables false

theorem get_some {α : Type} {l : List α} {j : Nat} (h : j < l.length) : ∃ x, l[j]? = some x := ⟨l[j], List.getElem?_eq_getElem h⟩
theorem kOk_yes {ks : List ByteArray} {i : Nat} {x : ByteArray} (h : ks[i]? = some x) (h1 : 1 ≤ x.size) (h2 : x.size ≤ 64) (h3 : i = 0 ∨ ∃ y, ks[i - 1]? = some y ∧ strLe x y = false) : kOk ks i = true := by
  unfold kOk
  rw [h]
  dsimp only
  rw [decide_eq_true ⟨h1, h2⟩, Bool.true_and]
  rcases h3 with rfl | ⟨y, hy, hl⟩
  · cases ks[0 - 1]? <;> simp
  · rw [hy]
    dsimp only
    rw [hl]; simp
theorem kOk_no1 {ks : List ByteArray} {i : Nat} {x : ByteArray} (h : ks[i]? = some x) (h1 : ¬ (1 ≤ x.size ∧ x.size ≤ 64)) : kOk ks i = false := by
  unfold kOk
  rw [h]
  dsimp only
  rw [decide_eq_false h1, Bool.false_and]
theorem kOk_no2 {ks : List ByteArray} {i : Nat} {x y : ByteArray} (h : ks[i]? = some x) (hi : 0 < i) (hy : ks[i - 1]? = some y) (hl : strLe x y = true) : kOk ks i = false := by
  unfold kOk
  rw [h]
  dsimp only
  rw [hy]
  dsimp only
  rw [hl, decide_eq_false (show ¬ i = 0 from by omega)]
  simp
theorem keysOk_no {ks : List ByteArray} {i : Nat} (hi : i < ks.length) (h : kOk ks i = false) : keysOk ks = false := decide_eq_false (fun hh => by rw [hh i hi] at h; cases h)
theorem keysOk_yes {ks : List ByteArray} (h : ∀ i, i < ks.length → kOk ks i = true) : keysOk ks = true := decide_eq_true h
theorem headOk_parts {k : Int} {b : Bool} {i : Int} {s : ByteArray} {n : Nat} {ks : List ByteArray} {deep : Int} {parts : Nat} (h1 : parts + 1 ≤ 4096) (h2 : 1 ≤ deep) (h3 : 0 ≤ k) (h4 : k ≤ 7) (h5 : unusedV k b i s n ks.length = true) (h6 : ¬ ((k = 6 ∨ k = 7) ∧ i < 1)) (h7 : k = 5 → ks.length = n ∧ keysOk ks = true) : headOk k b i s n ks deep parts = true :=
  decide_eq_true ⟨h1, h2, h3, h4, h5, h6, h7⟩
theorem headOk_no {k : Int} {b : Bool} {i : Int} {s : ByteArray} {n : Nat} {ks : List ByteArray} {deep : Int} {parts : Nat} (h : ¬ (parts + 1 ≤ 4096 ∧ 1 ≤ deep ∧ 0 ≤ k ∧ k ≤ 7 ∧ unusedV k b i s n ks.length = true ∧ ¬ ((k = 6 ∨ k = 7) ∧ i < 1) ∧ (k = 5 → ks.length = n ∧ keysOk ks = true))) : headOk k b i s n ks deep parts = false := decide_eq_false h
/-- What may hands back. -/
def mayR (p : Nat × Bool) : Value := .tuple #[.int .i64 p.1, .bool p.2]
theorem mayV_no {k : Int} {b : Bool} {i : Int} {s : ByteArray} {l : List Vt} {ks : List ByteArray} {d : Int} {p : Nat} (h : headOk k b i s l.length ks d p = false) : mayR (mayV (.mk k b i s l ks) d p) = .tuple #[.int .i64 ((p : Int) + 1), .bool false] := by
  unfold mayV; rw [h]; rfl
theorem mayV_go {k : Int} {b : Bool} {i : Int} {s : ByteArray} {l : List Vt} {ks : List ByteArray} {d : Int} {p : Nat} (h : headOk k b i s l.length ks d p = true) : mayV (.mk k b i s l ks) d p = mayVs l (d - 1) (p + 1) := by
  unfold mayV; rw [h]; rfl
def MaySaid (t : Vt) : Prop := ∀ (cs : List Value) (B : Nat) (w : World) (d : Int) (p : Nat), IsV B w cs t → B ≤ w.heap.size → 0 ≤ d → d ≤ 1000000 → p ≤ 4096 →
    Calls Try.prog 101 #[.agg cs.toArray, .int .i64 d, .int .i64 p] w fun e w' => e = .returned (mayR (mayV t d p)) ∧ Below w.heap.size w w'

set_option maxRecDepth 1000000 in
set_option maxHeartbeats 4000000 in
theorem may_any (t : Vt) : MaySaid t := by
  refine t.down (p := MaySaid) fun k b i s l ks ih cs B w d p hV hB hd0 hd1 hp => ?_
  unfold IsV at hV
  obtain ⟨la, lc, ka, kc, rfl, hk64, hi64, ⟨hlc, hlm⟩, ⟨hkc, hkm⟩, hla, hka, hK, hL⟩ := hV
  simp only [in64] at hk64 hi64
  have IH := Lib.hid ih
  have HK := Lib.hid hK
  have HLs := Lib.hid hL
  clear ih hK hL hla hka
  show Calls Try.prog 101 #[.agg #[.int .i64 k, .bool b, .int .i64 i, .string s, .slice la l.length lc, .slice ka ks.length kc], .int .i64 d, .int .i64 p] w _
  obtain ⟨R, hR⟩ : ∃ R, mayR (mayV (.mk k b i s l ks) d p) = R := ⟨_, rfl⟩
  have HR := Lib.hid hR
  rw [hR]
  clear hR
  have NO : Hid (headOk k b i s l.length ks d p = false → R = .tuple #[.int .i64 ((p : Int) + 1), .bool false]) := Lib.hid (fun h => by rw [← HR.out]; exact mayV_no h)
  by_cases c1 : 4096 < p + 1
  · have q1 : (4096 : Int) < (p : Int) + 1 := by omega
    have HN := Lib.hid (NO.out (headOk_no (fun h => by omega)))
    obtain rfl := HN.out
    go_enter Try.func101, Try.ntmps101
    go_wp2_with fail
    go_ret2
    exact ⟨rfl, (Below.refl _ _).alloc (Nat.le_refl _) _⟩
  have q1 : ¬ (4096 : Int) < (p : Int) + 1 := by omega
  have q1d : decide ((4096 : Int) < (p : Int) + 1) = false := by simp; omega
  by_cases c2 : d < 1
  · have HN := Lib.hid (NO.out (headOk_no (fun h => by omega)))
    obtain rfl := HN.out
    go_enter Try.func101, Try.ntmps101
    go_wp2_with fail
    go_ret2
    exact ⟨rfl, (Below.refl _ _).alloc (Nat.le_refl _) _⟩
  have q2d : decide (d < 1) = false := by simp; omega
  by_cases c3 : k < 0
  · have HN := Lib.hid (NO.out (headOk_no (fun h => by omega)))
    obtain rfl := HN.out
    go_enter Try.func101, Try.ntmps101
    go_wp2_with fail
    go_ret2
    exact ⟨rfl, (Below.refl _ _).alloc (Nat.le_refl _) _⟩
  have q3d : decide (k < 0) = false := by simp; omega
  by_cases c4 : 7 < k
  · have HN := Lib.hid (NO.out (headOk_no (fun h => by omega)))
    obtain rfl := HN.out
    go_enter Try.func101, Try.ntmps101
    go_wp2_with fail
    go_ret2
    exact ⟨rfl, (Below.refl _ _).alloc (Nat.le_refl _) _⟩
  have q4d : decide (7 < k) = false := by simp; omega
  have HU := Lib.hid (unused_any k b i s la ka l.length lc ks.length kc)
  by_cases c5 : unusedV k b i s l.length ks.length = true
  rotate_left
  · have c5f : unusedV k b i s l.length ks.length = false := by simpa using c5
    have HN := Lib.hid (NO.out (headOk_no (fun h => c5 h.2.2.2.2.1)))
    rw [c5f] at HU
    clear c5 c5f
    obtain rfl := HN.out
    go_enter Try.func101, Try.ntmps101
    go_wp2_with fail
    refine (HU.out _).mono ?_
    rintro e w1 ⟨rfl, hb1⟩
    go_wp2_with fail
    go_ret2
    exact ⟨rfl, below_step ((Below.refl _ _).alloc (Nat.le_refl _) _) rfl hb1⟩
  rw [c5] at HU
  have C5 := Lib.hid c5
  clear c5
  have d1 : 1 ≤ d := by omega
  by_cases k6 : k = 6
  · have k6b : (k == 6) = true := by simp; exact k6
    have k5b : (k == 5) = false := by simp; omega
    by_cases i1 : i < 1
    · have HN := Lib.hid (NO.out (headOk_no (fun h => h.2.2.2.2.2.1 ⟨by omega, i1⟩)))
      clear k6
      go_enter Try.func101, Try.ntmps101
      go_wp2_with fail
      refine (HU.out _).mono ?_
      rintro e w1 ⟨rfl, hb1⟩
      have hBX := (Block.new w [.int .i64 k, .bool b, .int .i64 i, .string s, .slice la l.length lc, .slice ka ks.length kc] 71).below hb1 (by simp)
      have x0 := hBX.cell (i := 0) rfl
      have x1 := hBX.cell (i := 1) rfl
      have x2 := hBX.cell (i := 2) rfl
      have x3 := hBX.cell (i := 3) rfl
      have x4 := hBX.cell (i := 4) rfl
      have x5 := hBX.cell (i := 5) rfl
      have HB1 := Lib.hid (hb1.mono (B' := w.heap.size + 1) (by simp))
      clear hb1 hBX
      go_wp2_with fail
      go_ret2
      exact ⟨by rw [HN.out]; rfl, ((Below.refl _ _).alloc (Nat.le_refl _) _).trans (HB1.out.mono (by omega))⟩
    have HD : Hid (headOk k b i s l.length ks d p = true) := Lib.hid (headOk_parts (by omega) d1 (by omega) (by omega) C5.out (by omega) (fun h => by omega))
    have i1b : ¬ i < 1 := i1
    clear k6
    go_enter Try.func101, Try.ntmps101
    go_wp2_with fail
    refine (HU.out _).mono ?_
    rintro e w1 ⟨rfl, hb1⟩
    have hBX := (Block.new w [.int .i64 k, .bool b, .int .i64 i, .string s, .slice la l.length lc, .slice ka ks.length kc] 71).below hb1 (by simp)
    have x0 := hBX.cell (i := 0) rfl
    have x1 := hBX.cell (i := 1) rfl
    have x2 := hBX.cell (i := 2) rfl
    have x3 := hBX.cell (i := 3) rfl
    have x4 := hBX.cell (i := 4) rfl
    have x5 := hBX.cell (i := 5) rfl
    have HB1 := Lib.hid (hb1.mono (B' := w.heap.size + 1) (by simp))
    clear hb1 hBX
    go_wp2_with fail
    go_loopw [2, 9] (fun pv iv wr => ∃ (j q : Nat), iv = .int .i64 j ∧ pv = .int .i64 q ∧ j ≤ l.length ∧ q ≤ 4096 ∧ Below (w.heap.size + 1) (w.alloc (.cells #[.int .i64 k, .bool b, .int .i64 i, .string s, .slice la l.length lc, .slice ka ks.length kc] 71)) wr ∧ Hid (R = mayR (mayVs (l.drop j) (d - 1) q))) (fun _ iv _ => l.length - (intOf iv).toNat)
    case atStart => exact ⟨0, p + 1, by go_num, by go_num, Nat.zero_le _, by omega, HB1.out, Lib.hid (by rw [← HR.out, mayV_go HD.out]; rfl)⟩
    case round =>
      obtain ⟨j, q, rfl, rfl, hj, hq, hbr, hm⟩ := hrel
      have hBR := (Block.new w [.int .i64 k, .bool b, .int .i64 i, .string s, .slice la l.length lc, .slice ka ks.length kc] 71).below hbr (by simp)
      have y4 := hBR.cell (i := 4) rfl
      clear hBR
      have HBR := Lib.hid hbr
      clear hbr
      by_cases hlt : j < l.length
      · have hlt' : (j : Int) < l.length := by omega
        obtain ⟨t, ht⟩ := get_some hlt
        obtain ⟨eb, eo, cs, rfl, heb, hce, hVt⟩ := HLs.out.get j t ht
        have hVr : IsV B wr cs t := IsV.below (((Below.refl w.heap.size w).alloc (Nat.le_refl _) _).trans (HBR.out.mono (by omega))) hB t cs hVt
        have HI := Lib.hid (IH.out j t ht cs B wr (d - 1) q hVr (Nat.le_trans hB (Nat.le_trans (by simp) HBR.out.size)) (by omega) (by omega) hq)
        have hst := mayVs_step ht (d - 1) q
        have hle := mayV_le t (d - 1) q hq
        obtain ⟨k2, b2, i2, s2, l2, ks2⟩ := t
        unfold IsV at hVt
        obtain ⟨la2, lc2, ka2, kc2, rfl, _⟩ := hVt
        have g : ∀ (n : Nat) v, ([.int .i64 k2, .bool b2, .int .i64 i2, .string s2, .slice la2 l2.length lc2, .slice ka2 ks2.length kc2] : List Value)[n]? = some v → wr.cell? ⟨eb, eo + j * 6 + n, none⟩ = some v := fun n v hv => by
          have h1 := hce n v hv
          rw [Nat.zero_add] at h1
          rw [Nat.add_assoc]
          rw [HBR.out.cell (by show eb < w.heap.size + 1; omega)]
          rw [(Below.alloc (Below.refl w.heap.size w) (Nat.le_refl _) (.cells #[.int .i64 k, .bool b, .int .i64 i, .string s, .slice (some ⟨eb, eo, none⟩) l.length lc, .slice ka ks.length kc] 71)).cell (by show eb < w.heap.size; omega)]
          exact h1
        have g0 := g 0 _ rfl
        have g1 := g 1 _ rfl
        have g2 := g 2 _ rfl
        have g3 := g 3 _ rfl
        have g4 := g 4 _ rfl
        have g5 := g 5 _ rfl
        rw [Nat.add_zero] at g0
        clear g hce
        cases hm2 : mayV (.mk k2 b2 i2 s2 l2 ks2) (d - 1) q with
        | mk n ok =>
          rw [hm2] at HI hst hle
          unfold mayR at HI
          dsimp only at HI hst hle
          have HST := Lib.hid hst
          clear hst hm2
          cases ok with
          | false =>
            have hle1 := hle.1
            clear hle
            go_wp2_with fail
            refine HI.out.mono ?_
            rintro e w2 ⟨rfl, hb2⟩
            go_wp2_with fail
            go_ret2
            exact ⟨by rw [hm.out, HST.out]; rfl, ((Below.refl w.heap.size w).alloc (Nat.le_refl _) _).trans ((HBR.out.mono (by omega)).trans (hb2.mono (Nat.le_trans (by simp) HBR.out.size)))⟩
          | true =>
            have hle1 := hle.2 rfl
            clear hle
            go_wp2_with fail
            refine HI.out.mono ?_
            rintro e w2 ⟨rfl, hb2⟩
            have HB2 := Lib.hid hb2
            clear hb2
            go_wp2_with fail
            go_roundw
            case rel => exact ⟨j + 1, n, by go_num, rfl, by omega, hle1, HBR.out.trans (HB2.out.mono (Nat.le_trans (by simp) HBR.out.size)), Lib.hid (by rw [hm.out, HST.out])⟩
            case measure => simp [intOf]; omega
      · have hlt' : ¬ (j : Int) < l.length := by omega
        go_wp2_with fail
        go_ret2
        exact ⟨by rw [hm.out, List.drop_of_length_le (by omega)]; rfl, ((Below.refl w.heap.size w).alloc (Nat.le_refl _) _).trans (HBR.out.mono (by omega))⟩
  by_cases k7 : k = 7
  · have k7b : (k == 7) = true := by simp; exact k7
    have k6b : (k == 6) = false := by simp; omega
    have k5b : (k == 5) = false := by simp; omega
    by_cases i1 : i < 1
    · have HN := Lib.hid (NO.out (headOk_no (fun h => h.2.2.2.2.2.1 ⟨by omega, i1⟩)))
      clear k7
      go_enter Try.func101, Try.ntmps101
      go_wp2_with fail
      refine (HU.out _).mono ?_
      rintro e w1 ⟨rfl, hb1⟩
      have hBX := (Block.new w [.int .i64 k, .bool b, .int .i64 i, .string s, .slice la l.length lc, .slice ka ks.length kc] 71).below hb1 (by simp)
      have x0 := hBX.cell (i := 0) rfl
      have x1 := hBX.cell (i := 1) rfl
      have x2 := hBX.cell (i := 2) rfl
      have x3 := hBX.cell (i := 3) rfl
      have x4 := hBX.cell (i := 4) rfl
      have x5 := hBX.cell (i := 5) rfl
      have HB1 := Lib.hid (hb1.mono (B' := w.heap.size + 1) (by simp))
      clear hb1 hBX
      go_wp2_with fail
      go_ret2
      exact ⟨by rw [HN.out]; rfl, ((Below.refl _ _).alloc (Nat.le_refl _) _).trans (HB1.out.mono (by omega))⟩
    have HD : Hid (headOk k b i s l.length ks d p = true) := Lib.hid (headOk_parts (by omega) d1 (by omega) (by omega) C5.out (by omega) (fun h => by omega))
    have i1b : ¬ i < 1 := i1
    clear k7
    go_enter Try.func101, Try.ntmps101
    go_wp2_with fail
    refine (HU.out _).mono ?_
    rintro e w1 ⟨rfl, hb1⟩
    have hBX := (Block.new w [.int .i64 k, .bool b, .int .i64 i, .string s, .slice la l.length lc, .slice ka ks.length kc] 71).below hb1 (by simp)
    have x0 := hBX.cell (i := 0) rfl
    have x1 := hBX.cell (i := 1) rfl
    have x2 := hBX.cell (i := 2) rfl
    have x3 := hBX.cell (i := 3) rfl
    have x4 := hBX.cell (i := 4) rfl
    have x5 := hBX.cell (i := 5) rfl
    have HB1 := Lib.hid (hb1.mono (B' := w.heap.size + 1) (by simp))
    clear hb1 hBX
    go_wp2_with fail
    go_loopw [2, 9] (fun pv iv wr => ∃ (j q : Nat), iv = .int .i64 j ∧ pv = .int .i64 q ∧ j ≤ l.length ∧ q ≤ 4096 ∧ Below (w.heap.size + 1) (w.alloc (.cells #[.int .i64 k, .bool b, .int .i64 i, .string s, .slice la l.length lc, .slice ka ks.length kc] 71)) wr ∧ Hid (R = mayR (mayVs (l.drop j) (d - 1) q))) (fun _ iv _ => l.length - (intOf iv).toNat)
    case atStart => exact ⟨0, p + 1, by go_num, by go_num, Nat.zero_le _, by omega, HB1.out, Lib.hid (by rw [← HR.out, mayV_go HD.out]; rfl)⟩
    case round =>
      obtain ⟨j, q, rfl, rfl, hj, hq, hbr, hm⟩ := hrel
      have hBR := (Block.new w [.int .i64 k, .bool b, .int .i64 i, .string s, .slice la l.length lc, .slice ka ks.length kc] 71).below hbr (by simp)
      have y4 := hBR.cell (i := 4) rfl
      clear hBR
      have HBR := Lib.hid hbr
      clear hbr
      by_cases hlt : j < l.length
      · have hlt' : (j : Int) < l.length := by omega
        obtain ⟨t, ht⟩ := get_some hlt
        obtain ⟨eb, eo, cs, rfl, heb, hce, hVt⟩ := HLs.out.get j t ht
        have hVr : IsV B wr cs t := IsV.below (((Below.refl w.heap.size w).alloc (Nat.le_refl _) _).trans (HBR.out.mono (by omega))) hB t cs hVt
        have HI := Lib.hid (IH.out j t ht cs B wr (d - 1) q hVr (Nat.le_trans hB (Nat.le_trans (by simp) HBR.out.size)) (by omega) (by omega) hq)
        have hst := mayVs_step ht (d - 1) q
        have hle := mayV_le t (d - 1) q hq
        obtain ⟨k2, b2, i2, s2, l2, ks2⟩ := t
        unfold IsV at hVt
        obtain ⟨la2, lc2, ka2, kc2, rfl, _⟩ := hVt
        have g : ∀ (n : Nat) v, ([.int .i64 k2, .bool b2, .int .i64 i2, .string s2, .slice la2 l2.length lc2, .slice ka2 ks2.length kc2] : List Value)[n]? = some v → wr.cell? ⟨eb, eo + j * 6 + n, none⟩ = some v := fun n v hv => by
          have h1 := hce n v hv
          rw [Nat.zero_add] at h1
          rw [Nat.add_assoc]
          rw [HBR.out.cell (by show eb < w.heap.size + 1; omega)]
          rw [(Below.alloc (Below.refl w.heap.size w) (Nat.le_refl _) (.cells #[.int .i64 k, .bool b, .int .i64 i, .string s, .slice (some ⟨eb, eo, none⟩) l.length lc, .slice ka ks.length kc] 71)).cell (by show eb < w.heap.size; omega)]
          exact h1
        have g0 := g 0 _ rfl
        have g1 := g 1 _ rfl
        have g2 := g 2 _ rfl
        have g3 := g 3 _ rfl
        have g4 := g 4 _ rfl
        have g5 := g 5 _ rfl
        rw [Nat.add_zero] at g0
        clear g hce
        cases hm2 : mayV (.mk k2 b2 i2 s2 l2 ks2) (d - 1) q with
        | mk n ok =>
          rw [hm2] at HI hst hle
          unfold mayR at HI
          dsimp only at HI hst hle
          have HST := Lib.hid hst
          clear hst hm2
          cases ok with
          | false =>
            have hle1 := hle.1
            clear hle
            go_wp2_with fail
            refine HI.out.mono ?_
            rintro e w2 ⟨rfl, hb2⟩
            go_wp2_with fail
            go_ret2
            exact ⟨by rw [hm.out, HST.out]; rfl, ((Below.refl w.heap.size w).alloc (Nat.le_refl _) _).trans ((HBR.out.mono (by omega)).trans (hb2.mono (Nat.le_trans (by simp) HBR.out.size)))⟩
          | true =>
            have hle1 := hle.2 rfl
            clear hle
            go_wp2_with fail
            refine HI.out.mono ?_
            rintro e w2 ⟨rfl, hb2⟩
            have HB2 := Lib.hid hb2
            clear hb2
            go_wp2_with fail
            go_roundw
            case rel => exact ⟨j + 1, n, by go_num, rfl, by omega, hle1, HBR.out.trans (HB2.out.mono (Nat.le_trans (by simp) HBR.out.size)), Lib.hid (by rw [hm.out, HST.out])⟩
            case measure => simp [intOf]; omega
      · have hlt' : ¬ (j : Int) < l.length := by omega
        go_wp2_with fail
        go_ret2
        exact ⟨by rw [hm.out, List.drop_of_length_le (by omega)]; rfl, ((Below.refl w.heap.size w).alloc (Nat.le_refl _) _).trans (HBR.out.mono (by omega))⟩
  have k6b : (k == 6) = false := by simp; omega
  have k7b : (k == 7) = false := by simp; omega
  by_cases k5 : k = 5
  rotate_left
  · have k5b : (k == 5) = false := by simp; omega
    have HD : Hid (headOk k b i s l.length ks d p = true) := Lib.hid (headOk_parts (by omega) d1 (by omega) (by omega) C5.out (by omega) (fun h => absurd h k5))
    go_enter Try.func101, Try.ntmps101
    go_wp2_with fail
    refine (HU.out _).mono ?_
    rintro e w1 ⟨rfl, hb1⟩
    have hBX := (Block.new w [.int .i64 k, .bool b, .int .i64 i, .string s, .slice la l.length lc, .slice ka ks.length kc] 71).below hb1 (by simp)
    have x0 := hBX.cell (i := 0) rfl
    have x1 := hBX.cell (i := 1) rfl
    have x2 := hBX.cell (i := 2) rfl
    have x3 := hBX.cell (i := 3) rfl
    have x4 := hBX.cell (i := 4) rfl
    have x5 := hBX.cell (i := 5) rfl
    have HB1 := Lib.hid (hb1.mono (B' := w.heap.size + 1) (by simp))
    clear hb1 hBX
    go_wp2_with fail
    go_loopw [2, 9] (fun pv iv wr => ∃ (j q : Nat), iv = .int .i64 j ∧ pv = .int .i64 q ∧ j ≤ l.length ∧ q ≤ 4096 ∧ Below (w.heap.size + 1) (w.alloc (.cells #[.int .i64 k, .bool b, .int .i64 i, .string s, .slice la l.length lc, .slice ka ks.length kc] 71)) wr ∧ Hid (R = mayR (mayVs (l.drop j) (d - 1) q))) (fun _ iv _ => l.length - (intOf iv).toNat)
    case atStart => exact ⟨0, p + 1, by go_num, by go_num, Nat.zero_le _, by omega, HB1.out, Lib.hid (by rw [← HR.out, mayV_go HD.out]; rfl)⟩
    case round =>
      obtain ⟨j, q, rfl, rfl, hj, hq, hbr, hm⟩ := hrel
      have hBR := (Block.new w [.int .i64 k, .bool b, .int .i64 i, .string s, .slice la l.length lc, .slice ka ks.length kc] 71).below hbr (by simp)
      have y4 := hBR.cell (i := 4) rfl
      clear hBR
      have HBR := Lib.hid hbr
      clear hbr
      by_cases hlt : j < l.length
      · have hlt' : (j : Int) < l.length := by omega
        obtain ⟨t, ht⟩ := get_some hlt
        obtain ⟨eb, eo, cs, rfl, heb, hce, hVt⟩ := HLs.out.get j t ht
        have hVr : IsV B wr cs t := IsV.below (((Below.refl w.heap.size w).alloc (Nat.le_refl _) _).trans (HBR.out.mono (by omega))) hB t cs hVt
        have HI := Lib.hid (IH.out j t ht cs B wr (d - 1) q hVr (Nat.le_trans hB (Nat.le_trans (by simp) HBR.out.size)) (by omega) (by omega) hq)
        have hst := mayVs_step ht (d - 1) q
        have hle := mayV_le t (d - 1) q hq
        obtain ⟨k2, b2, i2, s2, l2, ks2⟩ := t
        unfold IsV at hVt
        obtain ⟨la2, lc2, ka2, kc2, rfl, _⟩ := hVt
        have g : ∀ (n : Nat) v, ([.int .i64 k2, .bool b2, .int .i64 i2, .string s2, .slice la2 l2.length lc2, .slice ka2 ks2.length kc2] : List Value)[n]? = some v → wr.cell? ⟨eb, eo + j * 6 + n, none⟩ = some v := fun n v hv => by
          have h1 := hce n v hv
          rw [Nat.zero_add] at h1
          rw [Nat.add_assoc]
          rw [HBR.out.cell (by show eb < w.heap.size + 1; omega)]
          rw [(Below.alloc (Below.refl w.heap.size w) (Nat.le_refl _) (.cells #[.int .i64 k, .bool b, .int .i64 i, .string s, .slice (some ⟨eb, eo, none⟩) l.length lc, .slice ka ks.length kc] 71)).cell (by show eb < w.heap.size; omega)]
          exact h1
        have g0 := g 0 _ rfl
        have g1 := g 1 _ rfl
        have g2 := g 2 _ rfl
        have g3 := g 3 _ rfl
        have g4 := g 4 _ rfl
        have g5 := g 5 _ rfl
        rw [Nat.add_zero] at g0
        clear g hce
        cases hm2 : mayV (.mk k2 b2 i2 s2 l2 ks2) (d - 1) q with
        | mk n ok =>
          rw [hm2] at HI hst hle
          unfold mayR at HI
          dsimp only at HI hst hle
          have HST := Lib.hid hst
          clear hst hm2
          cases ok with
          | false =>
            have hle1 := hle.1
            clear hle
            go_wp2_with fail
            refine HI.out.mono ?_
            rintro e w2 ⟨rfl, hb2⟩
            go_wp2_with fail
            go_ret2
            exact ⟨by rw [hm.out, HST.out]; rfl, ((Below.refl w.heap.size w).alloc (Nat.le_refl _) _).trans ((HBR.out.mono (by omega)).trans (hb2.mono (Nat.le_trans (by simp) HBR.out.size)))⟩
          | true =>
            have hle1 := hle.2 rfl
            clear hle
            go_wp2_with fail
            refine HI.out.mono ?_
            rintro e w2 ⟨rfl, hb2⟩
            have HB2 := Lib.hid hb2
            clear hb2
            go_wp2_with fail
            go_roundw
            case rel => exact ⟨j + 1, n, by go_num, rfl, by omega, hle1, HBR.out.trans (HB2.out.mono (Nat.le_trans (by simp) HBR.out.size)), Lib.hid (by rw [hm.out, HST.out])⟩
            case measure => simp [intOf]; omega
      · have hlt' : ¬ (j : Int) < l.length := by omega
        go_wp2_with fail
        go_ret2
        exact ⟨by rw [hm.out, List.drop_of_length_le (by omega)]; rfl, ((Below.refl w.heap.size w).alloc (Nat.le_refl _) _).trans (HBR.out.mono (by omega))⟩
  have k5b : (k == 5) = true := by simp; omega
  have K5 := Lib.hid k5
  clear k5
  by_cases hn : ks.length = l.length
  rotate_left
  · have hnb : ((ks.length : Int) != (l.length : Int)) = true := by simp; omega
    have HN := Lib.hid (NO.out (headOk_no (fun h => hn (h.2.2.2.2.2.2 K5.out).1)))
    go_enter Try.func101, Try.ntmps101
    go_wp2_with fail
    refine (HU.out _).mono ?_
    rintro e w1 ⟨rfl, hb1⟩
    have hBX := (Block.new w [.int .i64 k, .bool b, .int .i64 i, .string s, .slice la l.length lc, .slice ka ks.length kc] 71).below hb1 (by simp)
    have x0 := hBX.cell (i := 0) rfl
    have x1 := hBX.cell (i := 1) rfl
    have x2 := hBX.cell (i := 2) rfl
    have x3 := hBX.cell (i := 3) rfl
    have x4 := hBX.cell (i := 4) rfl
    have x5 := hBX.cell (i := 5) rfl
    have HB1 := Lib.hid (hb1.mono (B' := w.heap.size + 1) (by simp))
    clear hb1 hBX
    go_wp2_with fail
    go_ret2
    exact ⟨by rw [HN.out]; rfl, ((Below.refl _ _).alloc (Nat.le_refl _) _).trans (HB1.out.mono (by omega))⟩
  have hnb : ((ks.length : Int) != (l.length : Int)) = false := by simp; omega
  have HNL := Lib.hid hn
  clear hn
  go_enter Try.func101, Try.ntmps101
  go_wp2_with fail
  refine (HU.out _).mono ?_
  rintro e w1 ⟨rfl, hb1⟩
  have hBX := (Block.new w [.int .i64 k, .bool b, .int .i64 i, .string s, .slice la l.length lc, .slice ka ks.length kc] 71).below hb1 (by simp)
  have x0 := hBX.cell (i := 0) rfl
  have x1 := hBX.cell (i := 1) rfl
  have x2 := hBX.cell (i := 2) rfl
  have x3 := hBX.cell (i := 3) rfl
  have x4 := hBX.cell (i := 4) rfl
  have x5 := hBX.cell (i := 5) rfl
  have HB1 := Lib.hid (hb1.mono (B' := w.heap.size + 1) (by simp))
  clear hb1 hBX
  go_wp2_with fail
  go_loopw [8] (fun iv wr => ∃ (j : Nat), iv = .int .i64 j ∧ j ≤ ks.length ∧ Below (w.heap.size + 1) (w.alloc (.cells #[.int .i64 k, .bool b, .int .i64 i, .string s, .slice la l.length lc, .slice ka ks.length kc] 71)) wr ∧ Hid (∀ n, n < j → kOk ks n = true)) (fun iv _ => ks.length - (intOf iv).toNat)
  case atStart => exact ⟨0, by go_num, Nat.zero_le _, HB1.out, Lib.hid (fun n h => by omega)⟩
  case round =>
    obtain ⟨j, rfl, hj, hbr, hm⟩ := hrel
    have hBR := (Block.new w [.int .i64 k, .bool b, .int .i64 i, .string s, .slice la l.length lc, .slice ka ks.length kc] 71).below hbr (by simp)
    have y4 := hBR.cell (i := 4) rfl
    have y5 := hBR.cell (i := 5) rfl
    clear hBR
    have HBR := Lib.hid hbr
    clear hbr
    by_cases hlt : j < ks.length
    · have hlt' : (j : Int) < ks.length := by omega
      obtain ⟨x, hx⟩ := get_some hlt
      have hKr : StrRow B wr ka ks := HK.out.below (((Below.refl w.heap.size w).alloc (Nat.le_refl _) _).trans (HBR.out.mono (by omega))) hB
      rcases hKr with h0 | ⟨kb, ko, rfl, hkb, hkc'⟩
      · exfalso; rw [List.map_eq_nil_iff] at h0; rw [h0] at hlt; simp at hlt
      have g : wr.cell? ⟨kb, ko + j, none⟩ = some (.string x) := hkc' j _ (by rw [List.getElem?_map, hx]; rfl)
      have HKC := Lib.hid hkc'
      clear hkc'
      have p0 : (0 : Int) ≤ (j : Int) := by omega
      have HX := Lib.hid hx
      clear hx
      by_cases z1 : x.size < 1
      · have z1d : decide ((x.size : Int) < 1) = true := by simp; omega
        have HN := Lib.hid (NO.out (headOk_no (fun h => by have := (h.2.2.2.2.2.2 K5.out).2; rw [keysOk_no hlt (kOk_no1 HX.out (by omega))] at this; cases this)))
        go_wp2_with fail
        go_quiet (fail)
        go_wp2_with fail
        go_ret2
        exact ⟨by rw [HN.out]; rfl, below_draws (((Below.refl _ _).alloc (Nat.le_refl _) _).trans (HBR.out.mono (by omega))) _⟩
      have z1d : decide ((x.size : Int) < 1) = false := by simp; omega
      by_cases z2 : 64 < x.size
      · have z2d : decide ((64 : Int) < x.size) = true := by simp; omega
        have HN := Lib.hid (NO.out (headOk_no (fun h => by have := (h.2.2.2.2.2.2 K5.out).2; rw [keysOk_no hlt (kOk_no1 HX.out (by omega))] at this; cases this)))
        go_wp2_with fail
        go_quiet (fail)
        go_wp2_with fail
        go_ret2
        exact ⟨by rw [HN.out]; rfl, below_draws (((Below.refl _ _).alloc (Nat.le_refl _) _).trans (HBR.out.mono (by omega))) _⟩
      have z2d : decide ((64 : Int) < x.size) = false := by simp; omega
      by_cases z3 : j = 0
      · have z3d : decide ((0 : Int) < j) = false := by simp; omega
        have z3n : decide (0 < j) = false := by simp; omega
        have HKJ : Hid (kOk ks j = true) := Lib.hid (kOk_yes HX.out (by omega) (by omega) (.inl z3))
        clear z3
        go_wp2_with fail
        go_quiet (fail)
        go_wp2_with fail
        go_roundw
        case rel => exact ⟨j + 1, by go_num, by omega, below_draws HBR.out _, Lib.hid (fun n hn => by
          by_cases hnj : n = j
          · rw [hnj]; exact HKJ.out
          · exact hm.out n (by omega))⟩
        case measure => simp [intOf]; omega
      have z3d : decide ((0 : Int) < j) = true := by simp; omega
      have z3n : decide (0 < j) = true := by simp; omega
      obtain ⟨y, hy⟩ := get_some (l := ks) (j := j - 1) (by omega)
      have g' : wr.cell? ⟨kb, ko + (j - 1), none⟩ = some (.string y) := HKC.out (j - 1) _ (by rw [List.getElem?_map, hy]; rfl)
      have HY := Lib.hid hy
      clear hy
      have u1 : IntKind.i64.wrap ((j : Int) - 1) = (j : Int) - 1 := IntWalk.i64_in _ (by omega)
      have u2 : (0 : Int) ≤ (j : Int) - 1 := by omega
      have u3 : (j : Int) - 1 < ks.length := by omega
      have u4 : ((j : Int) - 1).toNat = j - 1 := by omega
      have u5 : (1 : Int) ≤ j := by omega
      cases hbl : Op.bytesLess x.toList y.toList with
      | true =>
        have HN := Lib.hid (NO.out (headOk_no (fun h => by have := (h.2.2.2.2.2.2 K5.out).2; rw [keysOk_no hlt (kOk_no2 HX.out (by omega) HY.out (by unfold strLe; rw [hbl]; rfl))] at this; cases this)))
        go_wp2_with fail
        go_quiet (fail)
        go_wp2_with fail
        go_ret2
        exact ⟨by rw [HN.out]; rfl, below_draws (((Below.refl _ _).alloc (Nat.le_refl _) _).trans (HBR.out.mono (by omega))) _⟩
      | false =>
        cases hbe : (x.toList == y.toList) with
        | true =>
          have HN := Lib.hid (NO.out (headOk_no (fun h => by have := (h.2.2.2.2.2.2 K5.out).2; rw [keysOk_no hlt (kOk_no2 HX.out (by omega) HY.out (by unfold strLe; rw [hbl, hbe]; rfl))] at this; cases this)))
          go_wp2_with fail
          go_quiet (fail)
          go_wp2_with fail
          go_ret2
          exact ⟨by rw [HN.out]; rfl, below_draws (((Below.refl _ _).alloc (Nat.le_refl _) _).trans (HBR.out.mono (by omega))) _⟩
        | false =>
          have HKJ : Hid (kOk ks j = true) := Lib.hid (kOk_yes HX.out (by omega) (by omega) (.inr ⟨y, HY.out, by unfold strLe; rw [hbl, hbe]; rfl⟩))
          go_wp2_with fail
          go_quiet (fail)
          go_wp2_with fail
          go_roundw
          case rel => exact ⟨j + 1, by go_num, by omega, below_draws HBR.out _, Lib.hid (fun n hn => by
            by_cases hnj : n = j
            · rw [hnj]; exact HKJ.out
            · exact hm.out n (by omega))⟩
          case measure => simp [intOf]; omega
    · have hlt' : ¬ (j : Int) < ks.length := by omega
      have HD : Hid (headOk k b i s l.length ks d p = true) := Lib.hid (headOk_parts (by omega) d1 (by omega) (by omega) C5.out (by have := K5.out; omega) (fun _ => ⟨HNL.out, keysOk_yes (fun n hn => hm.out n (by omega))⟩))
      go_wp2_with fail
      go_loopw [2, 9] (fun pv iv wr => ∃ (j q : Nat), iv = .int .i64 j ∧ pv = .int .i64 q ∧ j ≤ l.length ∧ q ≤ 4096 ∧ Below (w.heap.size + 1) (w.alloc (.cells #[.int .i64 k, .bool b, .int .i64 i, .string s, .slice la l.length lc, .slice ka ks.length kc] 71)) wr ∧ Hid (R = mayR (mayVs (l.drop j) (d - 1) q))) (fun _ iv _ => l.length - (intOf iv).toNat)
      case atStart => exact ⟨0, p + 1, by go_num, by go_num, Nat.zero_le _, by omega, HBR.out, Lib.hid (by rw [← HR.out, mayV_go HD.out]; rfl)⟩
      case round =>
        obtain ⟨j, q, rfl, rfl, hj, hq, hbr, hm⟩ := hrel
        have hBR := (Block.new w [.int .i64 k, .bool b, .int .i64 i, .string s, .slice la l.length lc, .slice ka ks.length kc] 71).below hbr (by simp)
        have y4 := hBR.cell (i := 4) rfl
        clear hBR
        have HBR := Lib.hid hbr
        clear hbr
        by_cases hlt : j < l.length
        · have hlt' : (j : Int) < l.length := by omega
          obtain ⟨t, ht⟩ := get_some hlt
          obtain ⟨eb, eo, cs, rfl, heb, hce, hVt⟩ := HLs.out.get j t ht
          have hVr : IsV B wr cs t := IsV.below (((Below.refl w.heap.size w).alloc (Nat.le_refl _) _).trans (HBR.out.mono (by omega))) hB t cs hVt
          have HI := Lib.hid (IH.out j t ht cs B wr (d - 1) q hVr (Nat.le_trans hB (Nat.le_trans (by simp) HBR.out.size)) (by omega) (by omega) hq)
          have hst := mayVs_step ht (d - 1) q
          have hle := mayV_le t (d - 1) q hq
          obtain ⟨k2, b2, i2, s2, l2, ks2⟩ := t
          unfold IsV at hVt
          obtain ⟨la2, lc2, ka2, kc2, rfl, _⟩ := hVt
          have g : ∀ (n : Nat) v, ([.int .i64 k2, .bool b2, .int .i64 i2, .string s2, .slice la2 l2.length lc2, .slice ka2 ks2.length kc2] : List Value)[n]? = some v → wr.cell? ⟨eb, eo + j * 6 + n, none⟩ = some v := fun n v hv => by
            have h1 := hce n v hv
            rw [Nat.zero_add] at h1
            rw [Nat.add_assoc]
            rw [HBR.out.cell (by show eb < w.heap.size + 1; omega)]
            rw [(Below.alloc (Below.refl w.heap.size w) (Nat.le_refl _) (.cells #[.int .i64 k, .bool b, .int .i64 i, .string s, .slice (some ⟨eb, eo, none⟩) l.length lc, .slice ka ks.length kc] 71)).cell (by show eb < w.heap.size; omega)]
            exact h1
          have g0 := g 0 _ rfl
          have g1 := g 1 _ rfl
          have g2 := g 2 _ rfl
          have g3 := g 3 _ rfl
          have g4 := g 4 _ rfl
          have g5 := g 5 _ rfl
          rw [Nat.add_zero] at g0
          clear g hce
          cases hm2 : mayV (.mk k2 b2 i2 s2 l2 ks2) (d - 1) q with
          | mk n ok =>
            rw [hm2] at HI hst hle
            unfold mayR at HI
            dsimp only at HI hst hle
            have HST := Lib.hid hst
            clear hst hm2
            cases ok with
            | false =>
              have hle1 := hle.1
              clear hle
              go_wp2_with fail
              refine HI.out.mono ?_
              rintro e w2 ⟨rfl, hb2⟩
              go_wp2_with fail
              go_ret2
              exact ⟨by rw [hm.out, HST.out]; rfl, ((Below.refl w.heap.size w).alloc (Nat.le_refl _) _).trans ((HBR.out.mono (by omega)).trans (hb2.mono (Nat.le_trans (by simp) HBR.out.size)))⟩
            | true =>
              have hle1 := hle.2 rfl
              clear hle
              go_wp2_with fail
              refine HI.out.mono ?_
              rintro e w2 ⟨rfl, hb2⟩
              have HB2 := Lib.hid hb2
              clear hb2
              go_wp2_with fail
              go_roundw
              case rel => exact ⟨j + 1, n, by go_num, rfl, by omega, hle1, HBR.out.trans (HB2.out.mono (Nat.le_trans (by simp) HBR.out.size)), Lib.hid (by rw [hm.out, HST.out])⟩
              case measure => simp [intOf]; omega
        · have hlt' : ¬ (j : Int) < l.length := by omega
          go_wp2_with fail
          go_ret2
          exact ⟨by rw [hm.out, List.drop_of_length_le (by omega)]; rfl, ((Below.refl w.heap.size w).alloc (Nat.le_refl _) _).trans (HBR.out.mono (by omega))⟩

theorem May_any (t : Vt) (cs : List Value) (B : Nat) (w : World) (hV : IsV B w cs t) (hB : B ≤ w.heap.size) :
    Calls Try.prog 92 #[.agg cs.toArray] w fun e w' => e = .returned (.bool (mayB t)) ∧ Below w.heap.size w w' := by
  have HM := Lib.hid (fun w' (hb : Below w.heap.size w w') => may_any t cs B w' 32 0 (IsV.below hb hB t cs hV) (Nat.le_trans hB hb.size) (by omega) (by omega) (by omega))
  obtain ⟨k, b, i, s, l, ks⟩ := t
  unfold IsV at hV
  obtain ⟨la, lc, ka, kc, rfl, -, -, -, -, -, -, -, -⟩ := hV
  unfold mayB
  cases hm : mayV (.mk k b i s l ks) 32 0 with
  | mk n ok =>
    rw [hm] at HM
    clear hm
    unfold mayR at HM
    dsimp only at HM
    show Calls Try.prog 92 #[.agg #[.int .i64 k, .bool b, .int .i64 i, .string s, .slice la l.length lc, .slice ka ks.length kc]] w _
    have HB0 := Lib.hid ((Below.refl w.heap.size w).alloc (Nat.le_refl _) (.cells #[.int .i64 k, .bool b, .int .i64 i, .string s, .slice la l.length lc, .slice ka ks.length kc] 71))
    go_enter Try.func92, Try.ntmps92
    go_wp2_with fail
    refine (HM.out _ HB0.out).mono ?_
    rintro e w1 ⟨rfl, hb1⟩
    go_wp2_with fail
    go_ret
    exact ⟨rfl, below_step HB0.out rfl hb1⟩
end Go.Proofs.Ytoakloicjlfaaaa

/- Layer 3: the contracts of bare, keys, look and Check (value), and of Check (wattleref03), over trees. Written by genlook.py. Conditions: none. -/
namespace Go.Proofs.Ytoakloicjlfaaaa
open Go.RowKit
set_option linter.unusedSimpArgs false
set_option linter.unusedVariables false

/-- Of two texts just one stands ahead, or they are one. -/
theorem bl_tri : ∀ x y : List UInt8, (Op.bytesLess x y = true ∧ Op.bytesLess y x = false ∧ x ≠ y) ∨ (x = y ∧ Op.bytesLess x y = false ∧ Op.bytesLess y x = false) ∨ (Op.bytesLess y x = true ∧ Op.bytesLess x y = false ∧ x ≠ y)
  | [], [] => .inr (.inl ⟨rfl, rfl, rfl⟩)
  | [], b :: y => .inl ⟨rfl, rfl, by simp⟩
  | a :: x, [] => .inr (.inr ⟨rfl, rfl, by simp⟩)
  | a :: x, b :: y => by
    have hs : ∀ (c d : UInt8) u v, Op.bytesLess (c :: u) (d :: v) = (decide (c < d) || (c == d && Op.bytesLess u v)) := fun _ _ _ _ => rfl
    rw [hs, hs]
    by_cases h1 : a < b
    · have h2 : ¬ b < a := by rw [UInt8.lt_iff_toNat_lt] at h1 ⊢; omega
      have h3 : a ≠ b := by intro e; subst e; exact h2 h1
      have h4 : (b == a) = false := beq_eq_false_iff_ne.2 (Ne.symm h3)
      exact .inl ⟨by simp [h1], by simp [h2, h4], fun e => h3 (List.cons.inj e).1⟩
    · by_cases h2 : b < a
      · have h3 : a ≠ b := by intro e; subst e; exact h1 h2
        have h4 : (a == b) = false := beq_eq_false_iff_ne.2 h3
        exact .inr (.inr ⟨by simp [h2], by simp [h1, h4], fun e => h3 (List.cons.inj e).1⟩)
      · have h3 : a = b := by rw [UInt8.lt_iff_toNat_lt] at h1 h2; exact UInt8.toNat_inj.1 (by omega)
        subst h3
        rcases bl_tri x y with ⟨p, q, r⟩ | ⟨p, q, r⟩ | ⟨p, q, r⟩
        · exact .inl ⟨by simp [p], by simp [h1, q], fun e => r (List.cons.inj e).2⟩
        · exact .inr (.inl ⟨by rw [p], by simp [h1, q], by simp [h1, r]⟩)
        · exact .inr (.inr ⟨by simp [p], by simp [h1, q], fun e => r (List.cons.inj e).2⟩)

set_option maxRecDepth 100000 in
set_option maxHeartbeats 4000000 in
theorem bare_any (k : Int) (b : Bool) (i : Int) (s : ByteArray) (la ka : Option Addr) (n lc m kc : Nat) (w : World) (h0 : 0 ≤ k) (h7 : k ≤ 7) :
    Calls Try.prog 107 #[.agg #[.int .i64 k, .bool b, .int .i64 i, .string s, .slice la n lc, .slice ka m kc]] w fun e w' => e = .returned (.bool (unusedV k b i s n m)) ∧ Below w.heap.size w w' := by
  have hcase : k = 0 ∨ k = 1 ∨ k = 2 ∨ k = 3 ∨ k = 4 ∨ k = 5 ∨ k = 6 ∨ k = 7 := by omega
  clear h0 h7
  rcases hcase with rfl | rfl | rfl | rfl | rfl | rfl | rfl | rfl
  · by_cases hb : b = true
    · subst hb
      have HV := Lib.hid (show unusedV (0 : Int) true i s n m = false from decide_eq_false (fun hh => by rcases hh with ⟨h1, h2, h3, h4, h5⟩; first | omega | (simp_all; done) | (simp_all; omega)))
      rw [HV.out]
      go_enter Try.func107, Try.ntmps107
      go_wp2_with fail
      go_ret
      exact ⟨rfl, (Below.refl _ _).alloc (Nat.le_refl _) _⟩
    have hb : b = false := by simpa using hb
    subst hb
    by_cases hi : i = 0
    rotate_left
    · have hib : (i == 0) = false := by simp; exact hi
      have HV := Lib.hid (show unusedV (0 : Int) false i s n m = false from decide_eq_false (fun hh => by rcases hh with ⟨h1, h2, h3, h4, h5⟩; first | omega | (simp_all; done) | (simp_all; omega)))
      rw [HV.out]
      go_enter Try.func107, Try.ntmps107
      go_wp2_with fail
      go_ret
      exact ⟨rfl, (Below.refl _ _).alloc (Nat.le_refl _) _⟩
    have hib : (i == 0) = true := by simp; exact hi
    have HI := Lib.hid hi
    clear hi
    by_cases hs : s.size = 0
    rotate_left
    · obtain ⟨hs1, hs2⟩ := str_full hs
      have HV := Lib.hid (show unusedV (0 : Int) false i s n m = false from decide_eq_false (fun hh => by rcases hh with ⟨h1, h2, h3, h4, h5⟩; first | omega | (simp_all; done) | (simp_all; omega)))
      rw [HV.out]
      go_enter Try.func107, Try.ntmps107
      go_wp2_with fail
      go_ret
      exact ⟨rfl, (Below.refl _ _).alloc (Nat.le_refl _) _⟩
    obtain ⟨hs1, hs2⟩ := str_empty hs
    have HS := Lib.hid hs
    clear hs
    by_cases hn : n = 0
    rotate_left
    · have hn1 : ((n : Int) == 0) = false := by simp; exact hn
      have HV := Lib.hid (show unusedV (0 : Int) false i s n m = false from decide_eq_false (fun hh => by rcases hh with ⟨h1, h2, h3, h4, h5⟩; first | omega | (simp_all; done) | (simp_all; omega)))
      rw [HV.out]
      go_enter Try.func107, Try.ntmps107
      go_wp2_with fail
      go_ret
      exact ⟨rfl, (Below.refl _ _).alloc (Nat.le_refl _) _⟩
    have hn1 : ((n : Int) == 0) = true := by simp; exact hn
    have HN := Lib.hid hn
    clear hn
    by_cases hm : m = 0
    rotate_left
    · have hm1 : ((m : Int) == 0) = false := by simp; exact hm
      have HV := Lib.hid (show unusedV (0 : Int) false i s n m = false from decide_eq_false (fun hh => by rcases hh with ⟨h1, h2, h3, h4, h5⟩; first | omega | (simp_all; done) | (simp_all; omega)))
      rw [HV.out]
      go_enter Try.func107, Try.ntmps107
      go_wp2_with fail
      go_ret
      exact ⟨rfl, (Below.refl _ _).alloc (Nat.le_refl _) _⟩
    have hm1 : ((m : Int) == 0) = true := by simp; exact hm
    have HM := Lib.hid hm
    clear hm
    have HV := Lib.hid (show unusedV (0 : Int) false i s n m = true from decide_eq_true (by have h0 := HI.out; have h1 := HS.out; have h2 := HN.out; have h3 := HM.out; simp [*]))
    rw [HV.out]
    go_enter Try.func107, Try.ntmps107
    go_wp2_with fail
    go_ret
    exact ⟨rfl, (Below.refl _ _).alloc (Nat.le_refl _) _⟩
  · by_cases hi : i = 0
    rotate_left
    · have hib : (i == 0) = false := by simp; exact hi
      have HV := Lib.hid (show unusedV (1 : Int) b i s n m = false from decide_eq_false (fun hh => by rcases hh with ⟨h1, h2, h3, h4, h5⟩; first | omega | (simp_all; done) | (simp_all; omega)))
      rw [HV.out]
      go_enter Try.func107, Try.ntmps107
      go_wp2_with fail
      go_ret
      exact ⟨rfl, (Below.refl _ _).alloc (Nat.le_refl _) _⟩
    have hib : (i == 0) = true := by simp; exact hi
    have HI := Lib.hid hi
    clear hi
    by_cases hs : s.size = 0
    rotate_left
    · obtain ⟨hs1, hs2⟩ := str_full hs
      have HV := Lib.hid (show unusedV (1 : Int) b i s n m = false from decide_eq_false (fun hh => by rcases hh with ⟨h1, h2, h3, h4, h5⟩; first | omega | (simp_all; done) | (simp_all; omega)))
      rw [HV.out]
      go_enter Try.func107, Try.ntmps107
      go_wp2_with fail
      go_ret
      exact ⟨rfl, (Below.refl _ _).alloc (Nat.le_refl _) _⟩
    obtain ⟨hs1, hs2⟩ := str_empty hs
    have HS := Lib.hid hs
    clear hs
    by_cases hn : n = 0
    rotate_left
    · have hn1 : ((n : Int) == 0) = false := by simp; exact hn
      have HV := Lib.hid (show unusedV (1 : Int) b i s n m = false from decide_eq_false (fun hh => by rcases hh with ⟨h1, h2, h3, h4, h5⟩; first | omega | (simp_all; done) | (simp_all; omega)))
      rw [HV.out]
      go_enter Try.func107, Try.ntmps107
      go_wp2_with fail
      go_ret
      exact ⟨rfl, (Below.refl _ _).alloc (Nat.le_refl _) _⟩
    have hn1 : ((n : Int) == 0) = true := by simp; exact hn
    have HN := Lib.hid hn
    clear hn
    by_cases hm : m = 0
    rotate_left
    · have hm1 : ((m : Int) == 0) = false := by simp; exact hm
      have HV := Lib.hid (show unusedV (1 : Int) b i s n m = false from decide_eq_false (fun hh => by rcases hh with ⟨h1, h2, h3, h4, h5⟩; first | omega | (simp_all; done) | (simp_all; omega)))
      rw [HV.out]
      go_enter Try.func107, Try.ntmps107
      go_wp2_with fail
      go_ret
      exact ⟨rfl, (Below.refl _ _).alloc (Nat.le_refl _) _⟩
    have hm1 : ((m : Int) == 0) = true := by simp; exact hm
    have HM := Lib.hid hm
    clear hm
    have HV := Lib.hid (show unusedV (1 : Int) b i s n m = true from decide_eq_true (by have h0 := HI.out; have h1 := HS.out; have h2 := HN.out; have h3 := HM.out; simp [*]))
    rw [HV.out]
    go_enter Try.func107, Try.ntmps107
    go_wp2_with fail
    go_ret
    exact ⟨rfl, (Below.refl _ _).alloc (Nat.le_refl _) _⟩
  · by_cases hb : b = true
    · subst hb
      have HV := Lib.hid (show unusedV (2 : Int) true i s n m = false from decide_eq_false (fun hh => by rcases hh with ⟨h1, h2, h3, h4, h5⟩; first | omega | (simp_all; done) | (simp_all; omega)))
      rw [HV.out]
      go_enter Try.func107, Try.ntmps107
      go_wp2_with fail
      go_ret
      exact ⟨rfl, (Below.refl _ _).alloc (Nat.le_refl _) _⟩
    have hb : b = false := by simpa using hb
    subst hb
    by_cases hs : s.size = 0
    rotate_left
    · obtain ⟨hs1, hs2⟩ := str_full hs
      have HV := Lib.hid (show unusedV (2 : Int) false i s n m = false from decide_eq_false (fun hh => by rcases hh with ⟨h1, h2, h3, h4, h5⟩; first | omega | (simp_all; done) | (simp_all; omega)))
      rw [HV.out]
      go_enter Try.func107, Try.ntmps107
      go_wp2_with fail
      go_ret
      exact ⟨rfl, (Below.refl _ _).alloc (Nat.le_refl _) _⟩
    obtain ⟨hs1, hs2⟩ := str_empty hs
    have HS := Lib.hid hs
    clear hs
    by_cases hn : n = 0
    rotate_left
    · have hn1 : ((n : Int) == 0) = false := by simp; exact hn
      have HV := Lib.hid (show unusedV (2 : Int) false i s n m = false from decide_eq_false (fun hh => by rcases hh with ⟨h1, h2, h3, h4, h5⟩; first | omega | (simp_all; done) | (simp_all; omega)))
      rw [HV.out]
      go_enter Try.func107, Try.ntmps107
      go_wp2_with fail
      go_ret
      exact ⟨rfl, (Below.refl _ _).alloc (Nat.le_refl _) _⟩
    have hn1 : ((n : Int) == 0) = true := by simp; exact hn
    have HN := Lib.hid hn
    clear hn
    by_cases hm : m = 0
    rotate_left
    · have hm1 : ((m : Int) == 0) = false := by simp; exact hm
      have HV := Lib.hid (show unusedV (2 : Int) false i s n m = false from decide_eq_false (fun hh => by rcases hh with ⟨h1, h2, h3, h4, h5⟩; first | omega | (simp_all; done) | (simp_all; omega)))
      rw [HV.out]
      go_enter Try.func107, Try.ntmps107
      go_wp2_with fail
      go_ret
      exact ⟨rfl, (Below.refl _ _).alloc (Nat.le_refl _) _⟩
    have hm1 : ((m : Int) == 0) = true := by simp; exact hm
    have HM := Lib.hid hm
    clear hm
    have HV := Lib.hid (show unusedV (2 : Int) false i s n m = true from decide_eq_true (by have h0 := HS.out; have h1 := HN.out; have h2 := HM.out; simp [*]))
    rw [HV.out]
    go_enter Try.func107, Try.ntmps107
    go_wp2_with fail
    go_ret
    exact ⟨rfl, (Below.refl _ _).alloc (Nat.le_refl _) _⟩
  · by_cases hb : b = true
    · subst hb
      have HV := Lib.hid (show unusedV (3 : Int) true i s n m = false from decide_eq_false (fun hh => by rcases hh with ⟨h1, h2, h3, h4, h5⟩; first | omega | (simp_all; done) | (simp_all; omega)))
      rw [HV.out]
      go_enter Try.func107, Try.ntmps107
      go_wp2_with fail
      go_ret
      exact ⟨rfl, (Below.refl _ _).alloc (Nat.le_refl _) _⟩
    have hb : b = false := by simpa using hb
    subst hb
    by_cases hi : i = 0
    rotate_left
    · have hib : (i == 0) = false := by simp; exact hi
      have HV := Lib.hid (show unusedV (3 : Int) false i s n m = false from decide_eq_false (fun hh => by rcases hh with ⟨h1, h2, h3, h4, h5⟩; first | omega | (simp_all; done) | (simp_all; omega)))
      rw [HV.out]
      go_enter Try.func107, Try.ntmps107
      go_wp2_with fail
      go_ret
      exact ⟨rfl, (Below.refl _ _).alloc (Nat.le_refl _) _⟩
    have hib : (i == 0) = true := by simp; exact hi
    have HI := Lib.hid hi
    clear hi
    by_cases hn : n = 0
    rotate_left
    · have hn1 : ((n : Int) == 0) = false := by simp; exact hn
      have HV := Lib.hid (show unusedV (3 : Int) false i s n m = false from decide_eq_false (fun hh => by rcases hh with ⟨h1, h2, h3, h4, h5⟩; first | omega | (simp_all; done) | (simp_all; omega)))
      rw [HV.out]
      go_enter Try.func107, Try.ntmps107
      go_wp2_with fail
      go_ret
      exact ⟨rfl, (Below.refl _ _).alloc (Nat.le_refl _) _⟩
    have hn1 : ((n : Int) == 0) = true := by simp; exact hn
    have HN := Lib.hid hn
    clear hn
    by_cases hm : m = 0
    rotate_left
    · have hm1 : ((m : Int) == 0) = false := by simp; exact hm
      have HV := Lib.hid (show unusedV (3 : Int) false i s n m = false from decide_eq_false (fun hh => by rcases hh with ⟨h1, h2, h3, h4, h5⟩; first | omega | (simp_all; done) | (simp_all; omega)))
      rw [HV.out]
      go_enter Try.func107, Try.ntmps107
      go_wp2_with fail
      go_ret
      exact ⟨rfl, (Below.refl _ _).alloc (Nat.le_refl _) _⟩
    have hm1 : ((m : Int) == 0) = true := by simp; exact hm
    have HM := Lib.hid hm
    clear hm
    have HV := Lib.hid (show unusedV (3 : Int) false i s n m = true from decide_eq_true (by have h0 := HI.out; have h1 := HN.out; have h2 := HM.out; simp [*]))
    rw [HV.out]
    go_enter Try.func107, Try.ntmps107
    go_wp2_with fail
    go_ret
    exact ⟨rfl, (Below.refl _ _).alloc (Nat.le_refl _) _⟩
  · by_cases hb : b = true
    · subst hb
      have HV := Lib.hid (show unusedV (4 : Int) true i s n m = false from decide_eq_false (fun hh => by rcases hh with ⟨h1, h2, h3, h4, h5⟩; first | omega | (simp_all; done) | (simp_all; omega)))
      rw [HV.out]
      go_enter Try.func107, Try.ntmps107
      go_wp2_with fail
      go_ret
      exact ⟨rfl, (Below.refl _ _).alloc (Nat.le_refl _) _⟩
    have hb : b = false := by simpa using hb
    subst hb
    by_cases hi : i = 0
    rotate_left
    · have hib : (i == 0) = false := by simp; exact hi
      have HV := Lib.hid (show unusedV (4 : Int) false i s n m = false from decide_eq_false (fun hh => by rcases hh with ⟨h1, h2, h3, h4, h5⟩; first | omega | (simp_all; done) | (simp_all; omega)))
      rw [HV.out]
      go_enter Try.func107, Try.ntmps107
      go_wp2_with fail
      go_ret
      exact ⟨rfl, (Below.refl _ _).alloc (Nat.le_refl _) _⟩
    have hib : (i == 0) = true := by simp; exact hi
    have HI := Lib.hid hi
    clear hi
    by_cases hs : s.size = 0
    rotate_left
    · obtain ⟨hs1, hs2⟩ := str_full hs
      have HV := Lib.hid (show unusedV (4 : Int) false i s n m = false from decide_eq_false (fun hh => by rcases hh with ⟨h1, h2, h3, h4, h5⟩; first | omega | (simp_all; done) | (simp_all; omega)))
      rw [HV.out]
      go_enter Try.func107, Try.ntmps107
      go_wp2_with fail
      go_ret
      exact ⟨rfl, (Below.refl _ _).alloc (Nat.le_refl _) _⟩
    obtain ⟨hs1, hs2⟩ := str_empty hs
    have HS := Lib.hid hs
    clear hs
    by_cases hm : m = 0
    rotate_left
    · have hm1 : ((m : Int) == 0) = false := by simp; exact hm
      have HV := Lib.hid (show unusedV (4 : Int) false i s n m = false from decide_eq_false (fun hh => by rcases hh with ⟨h1, h2, h3, h4, h5⟩; first | omega | (simp_all; done) | (simp_all; omega)))
      rw [HV.out]
      go_enter Try.func107, Try.ntmps107
      go_wp2_with fail
      go_ret
      exact ⟨rfl, (Below.refl _ _).alloc (Nat.le_refl _) _⟩
    have hm1 : ((m : Int) == 0) = true := by simp; exact hm
    have HM := Lib.hid hm
    clear hm
    have HV := Lib.hid (show unusedV (4 : Int) false i s n m = true from decide_eq_true (by have h0 := HI.out; have h1 := HS.out; have h2 := HM.out; simp [*]))
    rw [HV.out]
    go_enter Try.func107, Try.ntmps107
    go_wp2_with fail
    go_ret
    exact ⟨rfl, (Below.refl _ _).alloc (Nat.le_refl _) _⟩
  · by_cases hb : b = true
    · subst hb
      have HV := Lib.hid (show unusedV (5 : Int) true i s n m = false from decide_eq_false (fun hh => by rcases hh with ⟨h1, h2, h3, h4, h5⟩; first | omega | (simp_all; done) | (simp_all; omega)))
      rw [HV.out]
      go_enter Try.func107, Try.ntmps107
      go_wp2_with fail
      go_ret
      exact ⟨rfl, (Below.refl _ _).alloc (Nat.le_refl _) _⟩
    have hb : b = false := by simpa using hb
    subst hb
    by_cases hi : i = 0
    rotate_left
    · have hib : (i == 0) = false := by simp; exact hi
      have HV := Lib.hid (show unusedV (5 : Int) false i s n m = false from decide_eq_false (fun hh => by rcases hh with ⟨h1, h2, h3, h4, h5⟩; first | omega | (simp_all; done) | (simp_all; omega)))
      rw [HV.out]
      go_enter Try.func107, Try.ntmps107
      go_wp2_with fail
      go_ret
      exact ⟨rfl, (Below.refl _ _).alloc (Nat.le_refl _) _⟩
    have hib : (i == 0) = true := by simp; exact hi
    have HI := Lib.hid hi
    clear hi
    by_cases hs : s.size = 0
    rotate_left
    · obtain ⟨hs1, hs2⟩ := str_full hs
      have HV := Lib.hid (show unusedV (5 : Int) false i s n m = false from decide_eq_false (fun hh => by rcases hh with ⟨h1, h2, h3, h4, h5⟩; first | omega | (simp_all; done) | (simp_all; omega)))
      rw [HV.out]
      go_enter Try.func107, Try.ntmps107
      go_wp2_with fail
      go_ret
      exact ⟨rfl, (Below.refl _ _).alloc (Nat.le_refl _) _⟩
    obtain ⟨hs1, hs2⟩ := str_empty hs
    have HS := Lib.hid hs
    clear hs
    have HV := Lib.hid (show unusedV (5 : Int) false i s n m = true from decide_eq_true (by have h0 := HI.out; have h1 := HS.out; simp [*]))
    rw [HV.out]
    go_enter Try.func107, Try.ntmps107
    go_wp2_with fail
    go_ret
    exact ⟨rfl, (Below.refl _ _).alloc (Nat.le_refl _) _⟩
  · by_cases hb : b = true
    · subst hb
      have HV := Lib.hid (show unusedV (6 : Int) true i s n m = false from decide_eq_false (fun hh => by rcases hh with ⟨h1, h2, h3, h4, h5⟩; first | omega | (simp_all; done) | (simp_all; omega)))
      rw [HV.out]
      go_enter Try.func107, Try.ntmps107
      go_wp2_with fail
      go_ret
      exact ⟨rfl, (Below.refl _ _).alloc (Nat.le_refl _) _⟩
    have hb : b = false := by simpa using hb
    subst hb
    by_cases hs : s.size = 0
    rotate_left
    · obtain ⟨hs1, hs2⟩ := str_full hs
      have HV := Lib.hid (show unusedV (6 : Int) false i s n m = false from decide_eq_false (fun hh => by rcases hh with ⟨h1, h2, h3, h4, h5⟩; first | omega | (simp_all; done) | (simp_all; omega)))
      rw [HV.out]
      go_enter Try.func107, Try.ntmps107
      go_wp2_with fail
      go_ret
      exact ⟨rfl, (Below.refl _ _).alloc (Nat.le_refl _) _⟩
    obtain ⟨hs1, hs2⟩ := str_empty hs
    have HS := Lib.hid hs
    clear hs
    by_cases hn : n = 0
    rotate_left
    · have hn1 : ((n : Int) == 0) = false := by simp; exact hn
      have HV := Lib.hid (show unusedV (6 : Int) false i s n m = false from decide_eq_false (fun hh => by rcases hh with ⟨h1, h2, h3, h4, h5⟩; first | omega | (simp_all; done) | (simp_all; omega)))
      rw [HV.out]
      go_enter Try.func107, Try.ntmps107
      go_wp2_with fail
      go_ret
      exact ⟨rfl, (Below.refl _ _).alloc (Nat.le_refl _) _⟩
    have hn1 : ((n : Int) == 0) = true := by simp; exact hn
    have HN := Lib.hid hn
    clear hn
    by_cases hm : m = 0
    rotate_left
    · have hm1 : ((m : Int) == 0) = false := by simp; exact hm
      have HV := Lib.hid (show unusedV (6 : Int) false i s n m = false from decide_eq_false (fun hh => by rcases hh with ⟨h1, h2, h3, h4, h5⟩; first | omega | (simp_all; done) | (simp_all; omega)))
      rw [HV.out]
      go_enter Try.func107, Try.ntmps107
      go_wp2_with fail
      go_ret
      exact ⟨rfl, (Below.refl _ _).alloc (Nat.le_refl _) _⟩
    have hm1 : ((m : Int) == 0) = true := by simp; exact hm
    have HM := Lib.hid hm
    clear hm
    have HV := Lib.hid (show unusedV (6 : Int) false i s n m = true from decide_eq_true (by have h0 := HS.out; have h1 := HN.out; have h2 := HM.out; simp [*]))
    rw [HV.out]
    go_enter Try.func107, Try.ntmps107
    go_wp2_with fail
    go_ret
    exact ⟨rfl, (Below.refl _ _).alloc (Nat.le_refl _) _⟩
  · by_cases hb : b = true
    · subst hb
      have HV := Lib.hid (show unusedV (7 : Int) true i s n m = false from decide_eq_false (fun hh => by rcases hh with ⟨h1, h2, h3, h4, h5⟩; first | omega | (simp_all; done) | (simp_all; omega)))
      rw [HV.out]
      go_enter Try.func107, Try.ntmps107
      go_wp2_with fail
      go_ret
      exact ⟨rfl, (Below.refl _ _).alloc (Nat.le_refl _) _⟩
    have hb : b = false := by simpa using hb
    subst hb
    by_cases hs : s.size = 0
    rotate_left
    · obtain ⟨hs1, hs2⟩ := str_full hs
      have HV := Lib.hid (show unusedV (7 : Int) false i s n m = false from decide_eq_false (fun hh => by rcases hh with ⟨h1, h2, h3, h4, h5⟩; first | omega | (simp_all; done) | (simp_all; omega)))
      rw [HV.out]
      go_enter Try.func107, Try.ntmps107
      go_wp2_with fail
      go_ret
      exact ⟨rfl, (Below.refl _ _).alloc (Nat.le_refl _) _⟩
    obtain ⟨hs1, hs2⟩ := str_empty hs
    have HS := Lib.hid hs
    clear hs
    by_cases hn : n = 0
    rotate_left
    · have hn1 : ((n : Int) == 0) = false := by simp; exact hn
      have HV := Lib.hid (show unusedV (7 : Int) false i s n m = false from decide_eq_false (fun hh => by rcases hh with ⟨h1, h2, h3, h4, h5⟩; first | omega | (simp_all; done) | (simp_all; omega)))
      rw [HV.out]
      go_enter Try.func107, Try.ntmps107
      go_wp2_with fail
      go_ret
      exact ⟨rfl, (Below.refl _ _).alloc (Nat.le_refl _) _⟩
    have hn1 : ((n : Int) == 0) = true := by simp; exact hn
    have HN := Lib.hid hn
    clear hn
    by_cases hm : m = 0
    rotate_left
    · have hm1 : ((m : Int) == 0) = false := by simp; exact hm
      have HV := Lib.hid (show unusedV (7 : Int) false i s n m = false from decide_eq_false (fun hh => by rcases hh with ⟨h1, h2, h3, h4, h5⟩; first | omega | (simp_all; done) | (simp_all; omega)))
      rw [HV.out]
      go_enter Try.func107, Try.ntmps107
      go_wp2_with fail
      go_ret
      exact ⟨rfl, (Below.refl _ _).alloc (Nat.le_refl _) _⟩
    have hm1 : ((m : Int) == 0) = true := by simp; exact hm
    have HM := Lib.hid hm
    clear hm
    have HV := Lib.hid (show unusedV (7 : Int) false i s n m = true from decide_eq_true (by have h0 := HS.out; have h1 := HN.out; have h2 := HM.out; simp [*]))
    rw [HV.out]
    go_enter Try.func107, Try.ntmps107
    go_wp2_with fail
    go_ret
    exact ⟨rfl, (Below.refl _ _).alloc (Nat.le_refl _) _⟩

set_option maxRecDepth 100000 in
set_option maxHeartbeats 4000000 in
theorem keys_any (ks : List ByteArray) (ka : Option Addr) (kc : Nat) (B : Nat) (w : World) (hK : StrRow B w ka ks) (hl : ks.length ≤ 9223372036854775807) :
    Calls Try.prog 108 #[.slice ka ks.length kc] w fun e w' => e = .returned (.bool (keysOk ks)) ∧ w = w' := by
  obtain ⟨R, hR⟩ : ∃ R, keysOk ks = R := ⟨_, rfl⟩
  have HR := Lib.hid hR
  rw [hR]
  clear hR
  have HK := Lib.hid hK
  clear hK
  go_enter Try.func108, Try.ntmps108
  go_wp2_with fail
  go_loop [7] (fun iv => ∃ (j : Nat), iv = .int .i64 j ∧ j ≤ ks.length ∧ Hid (∀ n, n < j → kOk ks n = true)) (fun iv => ks.length - (intOf iv).toNat)
  case atStart => exact ⟨0, rfl, Nat.zero_le _, Lib.hid (fun n h => by omega)⟩
  case round =>
    obtain ⟨j, rfl, hj, hm⟩ := hrel
    by_cases hlt : j < ks.length
    · have hlt' : (j : Int) < ks.length := by omega
      obtain ⟨x, hx⟩ := get_some hlt
      rcases HK.out with h0 | ⟨kb, ko, rfl, hkb, hkc'⟩
      · exfalso; rw [List.map_eq_nil_iff] at h0; rw [h0] at hlt; simp at hlt
      have g : w.cell? ⟨kb, ko + j, none⟩ = some (.string x) := hkc' j _ (by rw [List.getElem?_map, hx]; rfl)
      have HKC := Lib.hid hkc'
      clear hkc'
      have p0 : (0 : Int) ≤ (j : Int) := by omega
      have HX := Lib.hid hx
      clear hx
      by_cases z1 : x.size = 0
      · obtain ⟨e1, e2⟩ := str_empty z1
        have HN : Hid (R = false) := Lib.hid (by rw [← HR.out]; exact keysOk_no hlt (kOk_no1 HX.out (by omega)))
        go_wp2_with fail
        go_ret
        exact ⟨by rw [HN.out]; rfl, rfl⟩
      obtain ⟨e1, e2⟩ := str_full z1
      by_cases z2 : 64 < x.size
      · have z2d : (64 : Int) < x.size := by omega
        have HN : Hid (R = false) := Lib.hid (by rw [← HR.out]; exact keysOk_no hlt (kOk_no1 HX.out (by omega)))
        go_wp2_with fail
        go_ret
        exact ⟨by rw [HN.out]; rfl, rfl⟩
      have z2d : ¬ (64 : Int) < x.size := by omega
      by_cases z3 : j = 0
      · have z3d : ¬ (0 : Int) < j := by omega
        have z3n : decide (0 < j) = false := by simp; omega
        have HKJ : Hid (kOk ks j = true) := Lib.hid (kOk_yes HX.out (by omega) (by omega) (.inl z3))
        clear z3
        go_wp2_with fail
        go_round
        case rel => exact ⟨j + 1, by go_num, by omega, Lib.hid (fun n hn => by
          by_cases hnj : n = j
          · rw [hnj]; exact HKJ.out
          · exact hm.out n (by omega))⟩
        case measure => simp [intOf]; omega
      have z3d : (0 : Int) < j := by omega
      have z3n : decide (0 < j) = true := by simp; omega
      obtain ⟨y, hy⟩ := get_some (l := ks) (j := j - 1) (by omega)
      have g' : w.cell? ⟨kb, ko + (j - 1), none⟩ = some (.string y) := HKC.out (j - 1) _ (by rw [List.getElem?_map, hy]; rfl)
      have HY := Lib.hid hy
      clear hy
      have u2 : (0 : Int) ≤ (j : Int) - 1 := by omega
      have u3 : (j : Int) - 1 < ks.length := by omega
      have u4 : ((j : Int) - 1).toNat = j - 1 := by omega
      have u5 : (1 : Int) ≤ j := by omega
      rcases bl_tri x.toList y.toList with ⟨e3, e4, e5⟩ | ⟨e3, e4, e5⟩ | ⟨e3, e4, e5⟩
      · have HN : Hid (R = false) := Lib.hid (by rw [← HR.out]; exact keysOk_no hlt (kOk_no2 HX.out (by omega) HY.out (by unfold strLe; rw [e3]; rfl)))
        clear e3 e5
        go_wp2_with fail
        go_ret
        exact ⟨by rw [HN.out]; rfl, rfl⟩
      · have HN : Hid (R = false) := Lib.hid (by rw [← HR.out]; exact keysOk_no hlt (kOk_no2 HX.out (by omega) HY.out (by unfold strLe; rw [e3]; simp)))
        clear e3 e4
        go_wp2_with fail
        go_ret
        exact ⟨by rw [HN.out]; rfl, rfl⟩
      · have HKJ : Hid (kOk ks j = true) := Lib.hid (kOk_yes HX.out (by omega) (by omega) (.inr ⟨y, HY.out, by unfold strLe; rw [e4, beq_eq_false_iff_ne.2 e5]; rfl⟩))
        clear e4 e5
        go_wp2_with fail
        go_round
        case rel => exact ⟨j + 1, by go_num, by omega, Lib.hid (fun n hn => by
          by_cases hnj : n = j
          · rw [hnj]; exact HKJ.out
          · exact hm.out n (by omega))⟩
        case measure => simp [intOf]; omega
    · have hlt' : ¬ (j : Int) < ks.length := by omega
      have HD : Hid (R = true) := Lib.hid (by rw [← HR.out]; exact keysOk_yes (fun n hn => hm.out n (by omega)))
      go_wp2_with fail
      go_ret
      exact ⟨by rw [HD.out]; rfl, rfl⟩

def LookSaid (t : Vt) : Prop := ∀ (cs : List Value) (B : Nat) (w : World) (d : Int) (p : Nat), IsV B w cs t → B ≤ w.heap.size → 0 ≤ d → d ≤ 1000000 → p ≤ 4096 →
    Calls Try.prog 104 #[.agg cs.toArray, .int .i64 d, .int .i64 p] w fun e w' => e = .returned (mayR (mayV t d p)) ∧ Below w.heap.size w w'
set_option maxRecDepth 1000000 in
set_option maxHeartbeats 4000000 in
theorem look_any (t : Vt) : LookSaid t := by
  refine t.down (p := LookSaid) fun k b i s l ks ih cs B w d p hV hB hd0 hd1 hp => ?_
  unfold IsV at hV
  obtain ⟨la, lc, ka, kc, rfl, hk64, hi64, ⟨hlc, hlm⟩, ⟨hkc, hkm⟩, hla, hka, hK, hL⟩ := hV
  simp only [in64] at hk64 hi64
  have IH := Lib.hid ih
  have HK := Lib.hid hK
  have HLs := Lib.hid hL
  clear ih hK hL hla hka
  show Calls Try.prog 104 #[.agg #[.int .i64 k, .bool b, .int .i64 i, .string s, .slice la l.length lc, .slice ka ks.length kc], .int .i64 d, .int .i64 p] w _
  obtain ⟨R, hR⟩ : ∃ R, mayR (mayV (.mk k b i s l ks) d p) = R := ⟨_, rfl⟩
  have HR := Lib.hid hR
  rw [hR]
  clear hR
  have NO : Hid (headOk k b i s l.length ks d p = false → R = .tuple #[.int .i64 ((p : Int) + 1), .bool false]) := Lib.hid (fun h => by rw [← HR.out]; exact mayV_no h)
  by_cases c2 : d < 1
  · have q2 : d < 1 := c2
    have HN := Lib.hid (NO.out (headOk_no (fun h => by omega)))
    go_enter Try.func104, Try.ntmps104
    go_wp2_with fail
    go_ret2
    exact ⟨by rw [HN.out]; rfl, (Below.refl _ _).alloc (Nat.le_refl _) _⟩
  have q2 : ¬ d < 1 := c2
  by_cases c1 : 4096 < p + 1
  · have q1 : (4096 : Int) < (p : Int) + 1 := by omega
    have HN := Lib.hid (NO.out (headOk_no (fun h => by omega)))
    go_enter Try.func104, Try.ntmps104
    go_wp2_with fail
    go_ret2
    exact ⟨by rw [HN.out]; rfl, (Below.refl _ _).alloc (Nat.le_refl _) _⟩
  have q1 : ¬ (4096 : Int) < (p : Int) + 1 := by omega
  by_cases c3 : k < 0
  · have q3 : k < 0 := c3
    have HN := Lib.hid (NO.out (headOk_no (fun h => by omega)))
    go_enter Try.func104, Try.ntmps104
    go_wp2_with fail
    go_ret2
    exact ⟨by rw [HN.out]; rfl, (Below.refl _ _).alloc (Nat.le_refl _) _⟩
  have q3 : ¬ k < 0 := c3
  by_cases c4 : 7 < k
  · have q4 : 7 < k := c4
    have HN := Lib.hid (NO.out (headOk_no (fun h => by omega)))
    go_enter Try.func104, Try.ntmps104
    go_wp2_with fail
    go_ret2
    exact ⟨by rw [HN.out]; rfl, (Below.refl _ _).alloc (Nat.le_refl _) _⟩
  have q4 : ¬ 7 < k := c4
  have HU := Lib.hid (fun w => bare_any k b i s la ka l.length lc ks.length kc w (by omega) (by omega))
  have HKY := Lib.hid (fun w' (hb : Below w.heap.size w w') => keys_any ks ka kc B w' (HK.out.below hb hB) (by omega))
  by_cases c5 : unusedV k b i s l.length ks.length = true
  rotate_left
  · have c5f : unusedV k b i s l.length ks.length = false := by simpa using c5
    have HN := Lib.hid (NO.out (headOk_no (fun h => c5 h.2.2.2.2.1)))
    rw [c5f] at HU
    clear c5 c5f
    go_enter Try.func104, Try.ntmps104
    go_wp2_with fail
    refine (HU.out _).mono ?_
    rintro e w1 ⟨rfl, hb1⟩
    go_wp2_with fail
    go_ret2
    exact ⟨by rw [HN.out]; rfl, below_step ((Below.refl _ _).alloc (Nat.le_refl _) _) rfl hb1⟩
  rw [c5] at HU
  have C5 := Lib.hid c5
  clear c5
  have d1 : 1 ≤ d := by omega
  by_cases k6 : 6 ≤ k
  · have k5b : (k == 5) = false := by simp; omega
    by_cases i1 : i < 1
    · have HN := Lib.hid (NO.out (headOk_no (fun h => h.2.2.2.2.2.1 ⟨by omega, i1⟩)))
      go_enter Try.func104, Try.ntmps104
      go_wp2_with fail
      refine (HU.out _).mono ?_
      rintro e w1 ⟨rfl, hb1⟩
      have hBX := (Block.new w [.int .i64 k, .bool b, .int .i64 i, .string s, .slice la l.length lc, .slice ka ks.length kc] 71).below hb1 (by simp)
      have x0 := hBX.cell (i := 0) rfl
      have x1 := hBX.cell (i := 1) rfl
      have x2 := hBX.cell (i := 2) rfl
      have x3 := hBX.cell (i := 3) rfl
      have x4 := hBX.cell (i := 4) rfl
      have x5 := hBX.cell (i := 5) rfl
      have HB1 := Lib.hid (hb1.mono (B' := w.heap.size + 1) (by simp))
      have HKW := Lib.hid (HKY.out w1 (below_step ((Below.refl _ _).alloc (Nat.le_refl _) _) rfl hb1))
      clear hb1 hBX
      go_wp2_with fail
      go_ret2
      exact ⟨by rw [HN.out]; rfl, ((Below.refl _ _).alloc (Nat.le_refl _) _).trans (HB1.out.mono (by omega))⟩
    have HD : Hid (headOk k b i s l.length ks d p = true) := Lib.hid (headOk_parts (by omega) d1 (by omega) (by omega) C5.out (by omega) (fun h => by omega))
    go_enter Try.func104, Try.ntmps104
    go_wp2_with fail
    refine (HU.out _).mono ?_
    rintro e w1 ⟨rfl, hb1⟩
    have hBX := (Block.new w [.int .i64 k, .bool b, .int .i64 i, .string s, .slice la l.length lc, .slice ka ks.length kc] 71).below hb1 (by simp)
    have x0 := hBX.cell (i := 0) rfl
    have x1 := hBX.cell (i := 1) rfl
    have x2 := hBX.cell (i := 2) rfl
    have x3 := hBX.cell (i := 3) rfl
    have x4 := hBX.cell (i := 4) rfl
    have x5 := hBX.cell (i := 5) rfl
    have HB1 := Lib.hid (hb1.mono (B' := w.heap.size + 1) (by simp))
    have HKW := Lib.hid (HKY.out w1 (below_step ((Below.refl _ _).alloc (Nat.le_refl _) _) rfl hb1))
    clear hb1 hBX
    go_wp2_with fail
    go_loopw [2, 8, 9] (fun pv kv iv wr => ∃ (j q : Nat) (okb : Bool), iv = .int .i64 j ∧ pv = .int .i64 q ∧ kv = .bool okb ∧ j ≤ l.length ∧ q ≤ 4097 ∧ (okb = true → q ≤ 4096) ∧ Below (w.heap.size + 1) (w.alloc (.cells #[.int .i64 k, .bool b, .int .i64 i, .string s, .slice la l.length lc, .slice ka ks.length kc] 71)) wr ∧ Hid (R = if okb then mayR (mayVs (l.drop j) (d - 1) q) else mayR (q, false))) (fun _ _ iv _ => l.length - (intOf iv).toNat)
    case atStart => exact ⟨0, p + 1, true, by go_num, by go_num, rfl, Nat.zero_le _, by omega, fun _ => by omega, HB1.out, Lib.hid (by rw [← HR.out, mayV_go HD.out]; rfl)⟩
    case round =>
      obtain ⟨j, q, okb, rfl, rfl, rfl, hj, hq, hqk, hbr, hm⟩ := hrel
      have hBR := (Block.new w [.int .i64 k, .bool b, .int .i64 i, .string s, .slice la l.length lc, .slice ka ks.length kc] 71).below hbr (by simp)
      have y4 := hBR.cell (i := 4) rfl
      clear hBR
      have HBR := Lib.hid hbr
      clear hbr
      by_cases hlt : j < l.length
      · have hlt' : (j : Int) < l.length := by omega
        cases okb with
        | false =>
          clear hqk
          go_wp2_with fail
          go_ret2
          exact ⟨by rw [hm.out]; rfl, ((Below.refl w.heap.size w).alloc (Nat.le_refl _) _).trans (HBR.out.mono (by omega))⟩
        | true =>
          have hq2 := hqk rfl
          clear hqk
          obtain ⟨t, ht⟩ := get_some hlt
          obtain ⟨eb, eo, cs, rfl, heb, hce, hVt⟩ := HLs.out.get j t ht
          have hVr : IsV B wr cs t := IsV.below (((Below.refl w.heap.size w).alloc (Nat.le_refl _) _).trans (HBR.out.mono (by omega))) hB t cs hVt
          have HI := Lib.hid (IH.out j t ht cs B wr (d - 1) q hVr (Nat.le_trans hB (Nat.le_trans (by simp) HBR.out.size)) (by omega) (by omega) hq2)
          have hst := mayVs_step ht (d - 1) q
          have hle := mayV_le t (d - 1) q hq2
          obtain ⟨k2, b2, i2, s2, l2, ks2⟩ := t
          unfold IsV at hVt
          obtain ⟨la2, lc2, ka2, kc2, rfl, _⟩ := hVt
          have g : ∀ (n : Nat) v, ([.int .i64 k2, .bool b2, .int .i64 i2, .string s2, .slice la2 l2.length lc2, .slice ka2 ks2.length kc2] : List Value)[n]? = some v → wr.cell? ⟨eb, eo + j * 6 + n, none⟩ = some v := fun n v hv => by
            have h1 := hce n v hv
            rw [Nat.zero_add] at h1
            rw [Nat.add_assoc]
            rw [HBR.out.cell (by show eb < w.heap.size + 1; omega)]
            rw [(Below.alloc (Below.refl w.heap.size w) (Nat.le_refl _) (.cells #[.int .i64 k, .bool b, .int .i64 i, .string s, .slice (some ⟨eb, eo, none⟩) l.length lc, .slice ka ks.length kc] 71)).cell (by show eb < w.heap.size; omega)]
            exact h1
          have g0 := g 0 _ rfl
          have g1 := g 1 _ rfl
          have g2 := g 2 _ rfl
          have g3 := g 3 _ rfl
          have g4 := g 4 _ rfl
          have g5 := g 5 _ rfl
          rw [Nat.add_zero] at g0
          clear g hce
          cases hm2 : mayV (.mk k2 b2 i2 s2 l2 ks2) (d - 1) q with
          | mk n ok =>
            rw [hm2] at HI hst hle
            unfold mayR at HI
            dsimp only at HI hst hle
            have HST := Lib.hid hst
            have HLE := Lib.hid hle.2
            have hle1 := hle.1
            clear hst hm2 hle
            go_wp2_with fail
            refine HI.out.mono ?_
            rintro e w2 ⟨rfl, hb2⟩
            have HB2 := Lib.hid hb2
            clear hb2
            go_wp2_with fail
            go_roundw
            case rel => exact ⟨j + 1, n, ok, by go_num, rfl, rfl, by omega, hle1, HLE.out, HBR.out.trans (HB2.out.mono (Nat.le_trans (by simp) HBR.out.size)), Lib.hid (by have h := hm.out; simp at h; rw [h, HST.out]; cases ok <;> simp)⟩
            case measure => simp [intOf]; omega
      · have hlt' : ¬ (j : Int) < l.length := by omega
        have HF : Hid (R = mayR (q, okb)) := Lib.hid (by rw [hm.out, List.drop_of_length_le (by omega)]; cases okb <;> rfl)
        clear hqk
        go_wp2_with fail
        go_ret2
        exact ⟨by rw [HF.out]; rfl, ((Below.refl w.heap.size w).alloc (Nat.le_refl _) _).trans (HBR.out.mono (by omega))⟩
  by_cases k5 : k = 5
  rotate_left
  · have k5b : (k == 5) = false := by simp; omega
    have HD : Hid (headOk k b i s l.length ks d p = true) := Lib.hid (headOk_parts (by omega) d1 (by omega) (by omega) C5.out (by omega) (fun h => absurd h k5))
    clear k5
    go_enter Try.func104, Try.ntmps104
    go_wp2_with fail
    refine (HU.out _).mono ?_
    rintro e w1 ⟨rfl, hb1⟩
    have hBX := (Block.new w [.int .i64 k, .bool b, .int .i64 i, .string s, .slice la l.length lc, .slice ka ks.length kc] 71).below hb1 (by simp)
    have x0 := hBX.cell (i := 0) rfl
    have x1 := hBX.cell (i := 1) rfl
    have x2 := hBX.cell (i := 2) rfl
    have x3 := hBX.cell (i := 3) rfl
    have x4 := hBX.cell (i := 4) rfl
    have x5 := hBX.cell (i := 5) rfl
    have HB1 := Lib.hid (hb1.mono (B' := w.heap.size + 1) (by simp))
    have HKW := Lib.hid (HKY.out w1 (below_step ((Below.refl _ _).alloc (Nat.le_refl _) _) rfl hb1))
    clear hb1 hBX
    go_wp2_with fail
    go_loopw [2, 8, 9] (fun pv kv iv wr => ∃ (j q : Nat) (okb : Bool), iv = .int .i64 j ∧ pv = .int .i64 q ∧ kv = .bool okb ∧ j ≤ l.length ∧ q ≤ 4097 ∧ (okb = true → q ≤ 4096) ∧ Below (w.heap.size + 1) (w.alloc (.cells #[.int .i64 k, .bool b, .int .i64 i, .string s, .slice la l.length lc, .slice ka ks.length kc] 71)) wr ∧ Hid (R = if okb then mayR (mayVs (l.drop j) (d - 1) q) else mayR (q, false))) (fun _ _ iv _ => l.length - (intOf iv).toNat)
    case atStart => exact ⟨0, p + 1, true, by go_num, by go_num, rfl, Nat.zero_le _, by omega, fun _ => by omega, HB1.out, Lib.hid (by rw [← HR.out, mayV_go HD.out]; rfl)⟩
    case round =>
      obtain ⟨j, q, okb, rfl, rfl, rfl, hj, hq, hqk, hbr, hm⟩ := hrel
      have hBR := (Block.new w [.int .i64 k, .bool b, .int .i64 i, .string s, .slice la l.length lc, .slice ka ks.length kc] 71).below hbr (by simp)
      have y4 := hBR.cell (i := 4) rfl
      clear hBR
      have HBR := Lib.hid hbr
      clear hbr
      by_cases hlt : j < l.length
      · have hlt' : (j : Int) < l.length := by omega
        cases okb with
        | false =>
          clear hqk
          go_wp2_with fail
          go_ret2
          exact ⟨by rw [hm.out]; rfl, ((Below.refl w.heap.size w).alloc (Nat.le_refl _) _).trans (HBR.out.mono (by omega))⟩
        | true =>
          have hq2 := hqk rfl
          clear hqk
          obtain ⟨t, ht⟩ := get_some hlt
          obtain ⟨eb, eo, cs, rfl, heb, hce, hVt⟩ := HLs.out.get j t ht
          have hVr : IsV B wr cs t := IsV.below (((Below.refl w.heap.size w).alloc (Nat.le_refl _) _).trans (HBR.out.mono (by omega))) hB t cs hVt
          have HI := Lib.hid (IH.out j t ht cs B wr (d - 1) q hVr (Nat.le_trans hB (Nat.le_trans (by simp) HBR.out.size)) (by omega) (by omega) hq2)
          have hst := mayVs_step ht (d - 1) q
          have hle := mayV_le t (d - 1) q hq2
          obtain ⟨k2, b2, i2, s2, l2, ks2⟩ := t
          unfold IsV at hVt
          obtain ⟨la2, lc2, ka2, kc2, rfl, _⟩ := hVt
          have g : ∀ (n : Nat) v, ([.int .i64 k2, .bool b2, .int .i64 i2, .string s2, .slice la2 l2.length lc2, .slice ka2 ks2.length kc2] : List Value)[n]? = some v → wr.cell? ⟨eb, eo + j * 6 + n, none⟩ = some v := fun n v hv => by
            have h1 := hce n v hv
            rw [Nat.zero_add] at h1
            rw [Nat.add_assoc]
            rw [HBR.out.cell (by show eb < w.heap.size + 1; omega)]
            rw [(Below.alloc (Below.refl w.heap.size w) (Nat.le_refl _) (.cells #[.int .i64 k, .bool b, .int .i64 i, .string s, .slice (some ⟨eb, eo, none⟩) l.length lc, .slice ka ks.length kc] 71)).cell (by show eb < w.heap.size; omega)]
            exact h1
          have g0 := g 0 _ rfl
          have g1 := g 1 _ rfl
          have g2 := g 2 _ rfl
          have g3 := g 3 _ rfl
          have g4 := g 4 _ rfl
          have g5 := g 5 _ rfl
          rw [Nat.add_zero] at g0
          clear g hce
          cases hm2 : mayV (.mk k2 b2 i2 s2 l2 ks2) (d - 1) q with
          | mk n ok =>
            rw [hm2] at HI hst hle
            unfold mayR at HI
            dsimp only at HI hst hle
            have HST := Lib.hid hst
            have HLE := Lib.hid hle.2
            have hle1 := hle.1
            clear hst hm2 hle
            go_wp2_with fail
            refine HI.out.mono ?_
            rintro e w2 ⟨rfl, hb2⟩
            have HB2 := Lib.hid hb2
            clear hb2
            go_wp2_with fail
            go_roundw
            case rel => exact ⟨j + 1, n, ok, by go_num, rfl, rfl, by omega, hle1, HLE.out, HBR.out.trans (HB2.out.mono (Nat.le_trans (by simp) HBR.out.size)), Lib.hid (by have h := hm.out; simp at h; rw [h, HST.out]; cases ok <;> simp)⟩
            case measure => simp [intOf]; omega
      · have hlt' : ¬ (j : Int) < l.length := by omega
        have HF : Hid (R = mayR (q, okb)) := Lib.hid (by rw [hm.out, List.drop_of_length_le (by omega)]; cases okb <;> rfl)
        clear hqk
        go_wp2_with fail
        go_ret2
        exact ⟨by rw [HF.out]; rfl, ((Below.refl w.heap.size w).alloc (Nat.le_refl _) _).trans (HBR.out.mono (by omega))⟩
  have k5b : (k == 5) = true := by simp; omega
  have K5 := Lib.hid k5
  clear k5
  by_cases hn : ks.length = l.length
  rotate_left
  · have hnb : ((ks.length : Int) != (l.length : Int)) = true := by simp; omega
    have HN := Lib.hid (NO.out (headOk_no (fun h => hn (h.2.2.2.2.2.2 K5.out).1)))
    go_enter Try.func104, Try.ntmps104
    go_wp2_with fail
    refine (HU.out _).mono ?_
    rintro e w1 ⟨rfl, hb1⟩
    have hBX := (Block.new w [.int .i64 k, .bool b, .int .i64 i, .string s, .slice la l.length lc, .slice ka ks.length kc] 71).below hb1 (by simp)
    have x0 := hBX.cell (i := 0) rfl
    have x1 := hBX.cell (i := 1) rfl
    have x2 := hBX.cell (i := 2) rfl
    have x3 := hBX.cell (i := 3) rfl
    have x4 := hBX.cell (i := 4) rfl
    have x5 := hBX.cell (i := 5) rfl
    have HB1 := Lib.hid (hb1.mono (B' := w.heap.size + 1) (by simp))
    have HKW := Lib.hid (HKY.out w1 (below_step ((Below.refl _ _).alloc (Nat.le_refl _) _) rfl hb1))
    clear hb1 hBX
    go_wp2_with fail
    go_ret2
    exact ⟨by rw [HN.out]; rfl, ((Below.refl _ _).alloc (Nat.le_refl _) _).trans (HB1.out.mono (by omega))⟩
  have hnb : ((ks.length : Int) != (l.length : Int)) = false := by simp; omega
  have HNL := Lib.hid hn
  clear hn
  cases hko : keysOk ks with
  | false =>
    have HN := Lib.hid (NO.out (headOk_no (fun h => by have := (h.2.2.2.2.2.2 K5.out).2; rw [hko] at this; cases this)))
    rw [hko] at HKY
    clear hko
    go_enter Try.func104, Try.ntmps104
    go_wp2_with fail
    refine (HU.out _).mono ?_
    rintro e w1 ⟨rfl, hb1⟩
    have hBX := (Block.new w [.int .i64 k, .bool b, .int .i64 i, .string s, .slice la l.length lc, .slice ka ks.length kc] 71).below hb1 (by simp)
    have x0 := hBX.cell (i := 0) rfl
    have x1 := hBX.cell (i := 1) rfl
    have x2 := hBX.cell (i := 2) rfl
    have x3 := hBX.cell (i := 3) rfl
    have x4 := hBX.cell (i := 4) rfl
    have x5 := hBX.cell (i := 5) rfl
    have HB1 := Lib.hid (hb1.mono (B' := w.heap.size + 1) (by simp))
    have HKW := Lib.hid (HKY.out w1 (below_step ((Below.refl _ _).alloc (Nat.le_refl _) _) rfl hb1))
    clear hb1 hBX
    go_wp2_with fail
    refine HKW.out.mono ?_
    rintro e w2 ⟨rfl, rfl⟩
    go_wp2_with fail
    go_ret2
    exact ⟨by rw [HN.out]; rfl, ((Below.refl _ _).alloc (Nat.le_refl _) _).trans (HB1.out.mono (by omega))⟩
  | true =>
    have HD : Hid (headOk k b i s l.length ks d p = true) := Lib.hid (headOk_parts (by omega) d1 (by omega) (by omega) C5.out (by omega) (fun _ => ⟨HNL.out, hko⟩))
    rw [hko] at HKY
    clear hko
    go_enter Try.func104, Try.ntmps104
    go_wp2_with fail
    refine (HU.out _).mono ?_
    rintro e w1 ⟨rfl, hb1⟩
    have hBX := (Block.new w [.int .i64 k, .bool b, .int .i64 i, .string s, .slice la l.length lc, .slice ka ks.length kc] 71).below hb1 (by simp)
    have x0 := hBX.cell (i := 0) rfl
    have x1 := hBX.cell (i := 1) rfl
    have x2 := hBX.cell (i := 2) rfl
    have x3 := hBX.cell (i := 3) rfl
    have x4 := hBX.cell (i := 4) rfl
    have x5 := hBX.cell (i := 5) rfl
    have HB1 := Lib.hid (hb1.mono (B' := w.heap.size + 1) (by simp))
    have HKW := Lib.hid (HKY.out w1 (below_step ((Below.refl _ _).alloc (Nat.le_refl _) _) rfl hb1))
    clear hb1 hBX
    go_wp2_with fail
    refine HKW.out.mono ?_
    rintro e w2 ⟨rfl, rfl⟩
    go_wp2_with fail
    go_loopw [2, 8, 9] (fun pv kv iv wr => ∃ (j q : Nat) (okb : Bool), iv = .int .i64 j ∧ pv = .int .i64 q ∧ kv = .bool okb ∧ j ≤ l.length ∧ q ≤ 4097 ∧ (okb = true → q ≤ 4096) ∧ Below (w.heap.size + 1) (w.alloc (.cells #[.int .i64 k, .bool b, .int .i64 i, .string s, .slice la l.length lc, .slice ka ks.length kc] 71)) wr ∧ Hid (R = if okb then mayR (mayVs (l.drop j) (d - 1) q) else mayR (q, false))) (fun _ _ iv _ => l.length - (intOf iv).toNat)
    case atStart => exact ⟨0, p + 1, true, by go_num, by go_num, rfl, Nat.zero_le _, by omega, fun _ => by omega, HB1.out, Lib.hid (by rw [← HR.out, mayV_go HD.out]; rfl)⟩
    case round =>
      obtain ⟨j, q, okb, rfl, rfl, rfl, hj, hq, hqk, hbr, hm⟩ := hrel
      have hBR := (Block.new w [.int .i64 k, .bool b, .int .i64 i, .string s, .slice la l.length lc, .slice ka ks.length kc] 71).below hbr (by simp)
      have y4 := hBR.cell (i := 4) rfl
      clear hBR
      have HBR := Lib.hid hbr
      clear hbr
      by_cases hlt : j < l.length
      · have hlt' : (j : Int) < l.length := by omega
        cases okb with
        | false =>
          clear hqk
          go_wp2_with fail
          go_ret2
          exact ⟨by rw [hm.out]; rfl, ((Below.refl w.heap.size w).alloc (Nat.le_refl _) _).trans (HBR.out.mono (by omega))⟩
        | true =>
          have hq2 := hqk rfl
          clear hqk
          obtain ⟨t, ht⟩ := get_some hlt
          obtain ⟨eb, eo, cs, rfl, heb, hce, hVt⟩ := HLs.out.get j t ht
          have hVr : IsV B wr cs t := IsV.below (((Below.refl w.heap.size w).alloc (Nat.le_refl _) _).trans (HBR.out.mono (by omega))) hB t cs hVt
          have HI := Lib.hid (IH.out j t ht cs B wr (d - 1) q hVr (Nat.le_trans hB (Nat.le_trans (by simp) HBR.out.size)) (by omega) (by omega) hq2)
          have hst := mayVs_step ht (d - 1) q
          have hle := mayV_le t (d - 1) q hq2
          obtain ⟨k2, b2, i2, s2, l2, ks2⟩ := t
          unfold IsV at hVt
          obtain ⟨la2, lc2, ka2, kc2, rfl, _⟩ := hVt
          have g : ∀ (n : Nat) v, ([.int .i64 k2, .bool b2, .int .i64 i2, .string s2, .slice la2 l2.length lc2, .slice ka2 ks2.length kc2] : List Value)[n]? = some v → wr.cell? ⟨eb, eo + j * 6 + n, none⟩ = some v := fun n v hv => by
            have h1 := hce n v hv
            rw [Nat.zero_add] at h1
            rw [Nat.add_assoc]
            rw [HBR.out.cell (by show eb < w.heap.size + 1; omega)]
            rw [(Below.alloc (Below.refl w.heap.size w) (Nat.le_refl _) (.cells #[.int .i64 k, .bool b, .int .i64 i, .string s, .slice (some ⟨eb, eo, none⟩) l.length lc, .slice ka ks.length kc] 71)).cell (by show eb < w.heap.size; omega)]
            exact h1
          have g0 := g 0 _ rfl
          have g1 := g 1 _ rfl
          have g2 := g 2 _ rfl
          have g3 := g 3 _ rfl
          have g4 := g 4 _ rfl
          have g5 := g 5 _ rfl
          rw [Nat.add_zero] at g0
          clear g hce
          cases hm2 : mayV (.mk k2 b2 i2 s2 l2 ks2) (d - 1) q with
          | mk n ok =>
            rw [hm2] at HI hst hle
            unfold mayR at HI
            dsimp only at HI hst hle
            have HST := Lib.hid hst
            have HLE := Lib.hid hle.2
            have hle1 := hle.1
            clear hst hm2 hle
            go_wp2_with fail
            refine HI.out.mono ?_
            rintro e w2 ⟨rfl, hb2⟩
            have HB2 := Lib.hid hb2
            clear hb2
            go_wp2_with fail
            go_roundw
            case rel => exact ⟨j + 1, n, ok, by go_num, rfl, rfl, by omega, hle1, HLE.out, HBR.out.trans (HB2.out.mono (Nat.le_trans (by simp) HBR.out.size)), Lib.hid (by have h := hm.out; simp at h; rw [h, HST.out]; cases ok <;> simp)⟩
            case measure => simp [intOf]; omega
      · have hlt' : ¬ (j : Int) < l.length := by omega
        have HF : Hid (R = mayR (q, okb)) := Lib.hid (by rw [hm.out, List.drop_of_length_le (by omega)]; cases okb <;> rfl)
        clear hqk
        go_wp2_with fail
        go_ret2
        exact ⟨by rw [HF.out]; rfl, ((Below.refl w.heap.size w).alloc (Nat.le_refl _) _).trans (HBR.out.mono (by omega))⟩

theorem check_any (t : Vt) (cs : List Value) (B : Nat) (w : World) (hV : IsV B w cs t) (hB : B ≤ w.heap.size) :
    Calls Try.prog 99 #[.agg cs.toArray] w fun e w' => e = .returned (.int .i64 (if mayB t then 0 else 20)) ∧ Below w.heap.size w w' := by
  have HM := Lib.hid (fun w' (hb : Below w.heap.size w w') => look_any t cs B w' 32 0 (IsV.below hb hB t cs hV) (Nat.le_trans hB hb.size) (by omega) (by omega) (by omega))
  obtain ⟨k, b, i, s, l, ks⟩ := t
  unfold IsV at hV
  obtain ⟨la, lc, ka, kc, rfl, -, -, -, -, -, -, -, -⟩ := hV
  unfold mayB
  cases hm : mayV (.mk k b i s l ks) 32 0 with
  | mk n ok =>
    rw [hm] at HM
    clear hm
    unfold mayR at HM
    dsimp only at HM
    show Calls Try.prog 99 #[.agg #[.int .i64 k, .bool b, .int .i64 i, .string s, .slice la l.length lc, .slice ka ks.length kc]] w _
    have HB0 := Lib.hid ((Below.refl w.heap.size w).alloc (Nat.le_refl _) (.cells #[.int .i64 k, .bool b, .int .i64 i, .string s, .slice la l.length lc, .slice ka ks.length kc] 71))
    cases ok with
    | true =>
      go_enter Try.func99, Try.ntmps99
      go_wp2_with fail
      refine (HM.out _ HB0.out).mono ?_
      rintro e w1 ⟨rfl, hb1⟩
      go_wp2_with fail
      go_ret
      exact ⟨rfl, below_step HB0.out rfl hb1⟩
    | false =>
      go_enter Try.func99, Try.ntmps99
      go_wp2_with fail
      refine (HM.out _ HB0.out).mono ?_
      rintro e w1 ⟨rfl, hb1⟩
      go_wp2_with fail
      go_ret
      exact ⟨rfl, below_step HB0.out rfl hb1⟩
end Go.Proofs.Ytoakloicjlfaaaa

/- Layer 3: the contracts of Parts and Plain (value, wattleref03), over trees. Conditions: as many parts as an int holds; the reference's Plain: the value may be. -/
namespace Go.Proofs.Ytoakloicjlfaaaa
open Go.RowKit
set_option linter.unusedSimpArgs false
set_option linter.unusedVariables false

theorem IsVs.below {B B' : Nat} {w w' : World} {a : Option Addr} {l : List Vt} (h : IsVs B w a 0 l) (hb : Below B' w w') (hB : B ≤ B') : IsVs B w' a 0 l :=
  IsVs.mk (fun i t hi => by
    obtain ⟨b, off, cs, h1, h2, h3, h4⟩ := h.get i t hi
    exact ⟨b, off, cs, h1, h2, fun j v hj => by rw [hb.cell (by show b < B'; omega)]; exact h3 j v hj, IsV.below hb hB t cs h4⟩)
/-- One element of a row of values: its six cells. -/
theorem IsVs.at {B : Nat} {w : World} {a : Option Addr} {l : List Vt} (h : IsVs B w a 0 l) {j : Nat} {t : Vt} (ht : l[j]? = some t) :
    ∃ eb eo k b i s l2 ks la lc ka kc, t = .mk k b i s l2 ks ∧ a = some ⟨eb, eo, none⟩ ∧ eb < B ∧
      (w.cell? ⟨eb, eo + j * 6, none⟩ = some (.int .i64 k) ∧ w.cell? ⟨eb, eo + j * 6 + 1, none⟩ = some (.bool b) ∧ w.cell? ⟨eb, eo + j * 6 + 2, none⟩ = some (.int .i64 i) ∧ w.cell? ⟨eb, eo + j * 6 + 3, none⟩ = some (.string s) ∧ w.cell? ⟨eb, eo + j * 6 + 4, none⟩ = some (.slice la l2.length lc) ∧ w.cell? ⟨eb, eo + j * 6 + 5, none⟩ = some (.slice ka ks.length kc)) ∧
      IsV B w [.int .i64 k, .bool b, .int .i64 i, .string s, .slice la l2.length lc, .slice ka ks.length kc] (.mk k b i s l2 ks) := by
  obtain ⟨eb, eo, cs, h1, h2, h3, h4⟩ := h.get j t ht
  obtain ⟨k, b, i, s, l2, ks⟩ := t
  have h5 := h4
  unfold IsV at h5
  obtain ⟨la, lc, ka, kc, rfl, _⟩ := h5
  have g := fun n v hv => by have := h3 n v hv; rwa [Nat.zero_add, ← Nat.add_assoc] at this
  exact ⟨eb, eo, k, b, i, s, l2, ks, la, lc, ka, kc, rfl, h1, h2, ⟨by have := g 0 _ rfl; rwa [Nat.add_zero] at this, g 1 _ rfl, g 2 _ rfl, g 3 _ rfl, g 4 _ rfl, g 5 _ rfl⟩, h4⟩

mutual
def partsV : Vt → Nat
  | .mk _ _ _ _ l _ => 1 + partsVs l
def partsVs : List Vt → Nat
  | [] => 0
  | t :: ts => partsV t + partsVs ts
end
theorem partsVs_take {l : List Vt} {j : Nat} {t : Vt} (h : l[j]? = some t) : partsVs (l.take (j + 1)) = partsVs (l.take j) + partsV t := by
  rw [take_succ_some h]
  induction l.take j with
  | nil => simp [partsVs]
  | cons u us ih => simp only [List.cons_append, partsVs, ih]; omega
theorem partsVs_get {l : List Vt} {j : Nat} {t : Vt} (h : l[j]? = some t) : partsVs (l.take j) + partsV t ≤ partsVs l := by
  induction l generalizing j with
  | nil => simp at h
  | cons u us ih =>
    cases j with
    | zero => simp at h; subst h; simp [partsVs]
    | succ j =>
      have := ih (j := j) (by simpa using h)
      simp only [List.take_succ_cons, partsVs]; omega
mutual
def plainV : Vt → Bool
  | .mk k _ _ _ l _ => decide (k < 6) && plainVs l
def plainVs : List Vt → Bool
  | [] => true
  | t :: ts => plainV t && plainVs ts
end
theorem plainVs_at {l : List Vt} {j : Nat} {t : Vt} (h : l[j]? = some t) : plainVs (l.drop j) = (plainV t && plainVs (l.drop (j + 1))) := by
  obtain ⟨h1, h2⟩ := List.getElem?_eq_some_iff.1 h
  rw [List.drop_eq_getElem_cons h1, h2, plainVs]
def PlainSaid (t : Vt) : Prop := ∀ (cs : List Value) (B : Nat) (w : World), IsV B w cs t → B ≤ w.heap.size →
    Calls Try.prog 100 #[.agg cs.toArray] w fun e w' => e = .returned (.bool (plainV t)) ∧ Below w.heap.size w w'
theorem plain1_any (t : Vt) (h : PlainSaid t) (cs : List Value) (B : Nat) (w : World) (hV : IsV B w cs t) (hB : B ≤ w.heap.size) :
    Calls Try.prog 105 #[.agg cs.toArray] w fun e w' => e = .returned (.bool !(plainV t)) ∧ Below w.heap.size w w' := by
  have HM := Lib.hid (fun w' (hb : Below w.heap.size w w') => h cs B w' (IsV.below hb hB t cs hV) (Nat.le_trans hB hb.size))
  clear h
  obtain ⟨k, b, i, s, l, ks⟩ := t
  unfold IsV at hV
  obtain ⟨la, lc, ka, kc, rfl, -, -, -, -, -, -, -, -⟩ := hV
  show Calls Try.prog 105 #[.agg #[.int .i64 k, .bool b, .int .i64 i, .string s, .slice la l.length lc, .slice ka ks.length kc]] w _
  have HB0 := Lib.hid ((Below.refl w.heap.size w).alloc (Nat.le_refl _) (.cells #[.int .i64 k, .bool b, .int .i64 i, .string s, .slice la l.length lc, .slice ka ks.length kc] 71))
  obtain ⟨r, hr⟩ : ∃ r, plainV (.mk k b i s l ks) = r := ⟨_, rfl⟩
  rw [hr] at HM ⊢
  clear hr
  go_enter Try.func105, Try.ntmps105
  go_wp2_with fail
  refine (HM.out _ HB0.out).mono ?_
  rintro e w1 ⟨rfl, hb1⟩
  go_wp2_with fail
  go_ret
  exact ⟨rfl, below_step HB0.out rfl hb1⟩
def IdxP (l : List Vt) (w : World) (e : Ending) (w' : World) : Prop := ∃ r : Int, e = .returned (.int .i64 r) ∧ decide (0 ≤ r) = !(plainVs l) ∧ Below w.heap.size w w'
set_option maxRecDepth 100000 in
set_option maxHeartbeats 4000000 in
theorem indexPlain_any (l : List Vt) (ih : ∀ (j : Nat) t, l[j]? = some t → PlainSaid t) (la : Option Addr) (lc : Nat) (B : Nat) (w : World) (hL : IsVs B w la 0 l) (hB : B ≤ w.heap.size) (hlm : l.length ≤ 9223372036854775807) :
    Calls Try.prog 98 #[.slice la l.length lc, .func (.func 105) #[] #[]] w (IdxP l w) := by
  have IH := Lib.hid ih
  have HLs := Lib.hid hL
  clear ih hL
  go_enter Try.func98, Try.ntmps98
  go_wp2_with fail
  go_loopw [8] (fun iv wr => ∃ (j : Nat), iv = .int .i64 j ∧ j ≤ l.length ∧ Hid (plainVs l = plainVs (l.drop j)) ∧ Hid (Below w.heap.size w wr)) (fun iv _ => l.length - (intOf iv).toNat)
  case atStart => exact ⟨0, rfl, Nat.zero_le _, Lib.hid rfl, Lib.hid (Below.refl _ _)⟩
  case round =>
    obtain ⟨j, rfl, hj, HN, HBR⟩ := hrel
    by_cases hlt : j < l.length
    · have hlt' : (j : Int) < l.length := by omega
      have hj0 : (0 : Int) ≤ (j : Int) := by omega
      obtain ⟨t, ht⟩ := get_some hlt
      have HPT := Lib.hid (plainVs_at ht)
      obtain ⟨eb, eo, k2, b2, i2, s2, l2, ks2, la2, lc2, ka2, kc2, rfl, rfl, heb, ⟨g0, g1, g2, g3, g4, g5⟩, hVt⟩ := (HLs.out.below HBR.out hB).at ht
      have HI := Lib.hid (plain1_any _ (IH.out j _ ht) _ B wr hVt (Nat.le_trans hB HBR.out.size))
      clear hVt ht
      cases hpv : plainV (.mk k2 b2 i2 s2 l2 ks2) with
      | true =>
        rw [hpv] at HI HPT
        clear hpv
        go_wp2_with fail
        refine HI.out.mono ?_
        rintro e w2 ⟨rfl, hb2⟩
        have HB2 := Lib.hid (below_step HBR.out rfl hb2)
        clear hb2 g0 g1 g2 g3 g4 g5
        go_wp2_with fail
        go_roundw
        case rel => exact ⟨j + 1, by go_num, by omega, Lib.hid (by rw [HN.out, HPT.out, Bool.true_and]), HB2⟩
        case measure => simp [intOf]; omega
      | false =>
        rw [hpv] at HI HPT
        clear hpv
        go_wp2_with fail
        refine HI.out.mono ?_
        rintro e w2 ⟨rfl, hb2⟩
        have HB2 := Lib.hid (below_step HBR.out rfl hb2)
        clear hb2 g0 g1 g2 g3 g4 g5
        go_wp2_with fail
        go_ret
        exact ⟨j, rfl, by rw [HN.out, HPT.out, Bool.false_and]; simp, HB2.out⟩
    · have hlt' : ¬ (j : Int) < l.length := by omega
      have HF : Hid (plainVs l = true) := Lib.hid (by rw [HN.out, List.drop_of_length_le (by omega)]; rfl)
      go_wp2_with fail
      go_ret
      exact ⟨-1, rfl, by rw [HF.out]; decide, HBR.out⟩
theorem containsPlain_any (l : List Vt) (ih : ∀ (j : Nat) t, l[j]? = some t → PlainSaid t) (la : Option Addr) (lc : Nat) (B : Nat) (w : World) (hL : IsVs B w la 0 l) (hB : B ≤ w.heap.size) (hlm : l.length ≤ 9223372036854775807) :
    Calls Try.prog 88 #[.slice la l.length lc, .func (.func 105) #[] #[]] w fun e w' => e = .returned (.bool !(plainVs l)) ∧ Below w.heap.size w w' := by
  have HI := Lib.hid (indexPlain_any l ih la lc B w hL hB hlm)
  clear ih hL
  obtain ⟨R, hR⟩ : ∃ R, plainVs l = R := ⟨_, rfl⟩
  unfold IdxP at HI
  rw [hR] at HI ⊢
  clear hR
  go_enter Try.func88, Try.ntmps88
  go_wp2_with fail
  refine HI.out.mono ?_
  rintro e w1 ⟨r, rfl, hr, hb1⟩
  have HB1 := Lib.hid hb1
  have HRR := Lib.hid hr
  clear hb1 hr
  go_wp2_with fail
  go_ret
  exact ⟨by rw [← HRR.out]; rfl, HB1.out⟩
set_option maxRecDepth 100000 in
set_option maxHeartbeats 4000000 in
theorem plain_any (t : Vt) : PlainSaid t := by
  refine t.down (p := PlainSaid) fun k b i s l ks ih cs B w hV hB => ?_
  unfold IsV at hV
  obtain ⟨la, lc, ka, kc, rfl, -, -, ⟨hlc, hlm⟩, -, -, -, -, hL⟩ := hV
  have HC := Lib.hid (fun w' (hb : Below w.heap.size w w') => containsPlain_any l ih la lc B w' (hL.below hb hB) (Nat.le_trans hB hb.size) (by omega))
  clear ih hL
  show Calls Try.prog 100 #[.agg #[.int .i64 k, .bool b, .int .i64 i, .string s, .slice la l.length lc, .slice ka ks.length kc]] w _
  have HB0 := Lib.hid ((Below.refl w.heap.size w).alloc (Nat.le_refl _) (.cells #[.int .i64 k, .bool b, .int .i64 i, .string s, .slice la l.length lc, .slice ka ks.length kc] 71))
  have HP : Hid (plainV (.mk k b i s l ks) = (decide (k < 6) && plainVs l)) := Lib.hid (by unfold plainV; rfl)
  rw [HP.out]
  obtain ⟨R, hR⟩ : ∃ R, plainVs l = R := ⟨_, rfl⟩
  rw [hR] at HC ⊢
  clear hR HP
  by_cases hk : k < 6
  · have hkd : decide (k < 6) = true := decide_eq_true hk
    rw [hkd]
    clear hkd
    go_enter Try.func100, Try.ntmps100
    go_wp2_with fail
    refine (HC.out _ HB0.out).mono ?_
    rintro e w1 ⟨rfl, hb1⟩
    go_wp2_with fail
    go_ret
    exact ⟨by cases R <;> rfl, below_step HB0.out rfl hb1⟩
  · have hkd : decide (k < 6) = false := decide_eq_false hk
    have HKD := Lib.hid hkd
    rw [hkd]
    clear hkd
    go_enter Try.func100, Try.ntmps100
    go_wp2_with fail
    go_ret
    exact ⟨rfl, HB0.out⟩
def RPlainSaid (t : Vt) : Prop := ∀ (cs : List Value) (B : Nat) (w : World) (d : Int) (p : Nat), IsV B w cs t → B ≤ w.heap.size → (mayV t d p).2 = true →
    Calls Try.prog 93 #[.agg cs.toArray] w fun e w' => e = .returned (.bool (plainV t)) ∧ Below w.heap.size w w'
set_option maxRecDepth 100000 in
set_option maxHeartbeats 4000000 in
theorem rplain_any (t : Vt) : RPlainSaid t := by
  refine t.down (p := RPlainSaid) fun k b i s l ks ih cs B w d p hV hB hmay => ?_
  unfold IsV at hV
  obtain ⟨la, lc, ka, kc, rfl, -, -, ⟨hlc, hlm⟩, -, -, -, -, hL⟩ := hV
  obtain ⟨k', b', i', s', l', ks', heq, hhead, hsub⟩ := mayV_parts hmay
  obtain ⟨rfl, rfl, rfl, rfl, rfl, rfl⟩ : k' = k ∧ b' = b ∧ i' = i ∧ s' = s ∧ l' = l ∧ ks' = ks := by cases heq; exact ⟨rfl, rfl, rfl, rfl, rfl, rfl⟩
  have hk7 : 0 ≤ k' ∧ k' ≤ 7 := by have := of_decide_eq_true hhead; exact ⟨this.2.2.1, this.2.2.2.1⟩
  have IH := Lib.hid ih
  have HLs := Lib.hid hL
  have HSUB := Lib.hid hsub
  clear ih hL heq hhead hsub hmay
  show Calls Try.prog 93 #[.agg #[.int .i64 k', .bool b', .int .i64 i', .string s', .slice la l'.length lc, .slice ka ks'.length kc]] w _
  have HB0 := Lib.hid ((Below.refl w.heap.size w).alloc (Nat.le_refl _) (.cells #[.int .i64 k', .bool b', .int .i64 i', .string s', .slice la l'.length lc, .slice ka ks'.length kc] 71))
  have HBX := Lib.hid (Block.new w [.int .i64 k', .bool b', .int .i64 i', .string s', .slice la l'.length lc, .slice ka ks'.length kc] 71)
  have HP : Hid (plainV (.mk k' b' i' s' l' ks') = (decide (k' < 6) && plainVs l')) := Lib.hid (by unfold plainV; rfl)
  rw [HP.out]
  by_cases h6 : k' = 6
  · have k6 : (k' == 6) = true := by simp; exact h6
    have hkd : decide (k' < 6) = false := decide_eq_false (by omega)
    rw [hkd]
    clear h6 hkd
    go_enter Try.func93, Try.ntmps93
    go_wp2_with fail
    go_ret
    exact ⟨rfl, HB0.out⟩
  have k6 : (k' == 6) = false := by simp; exact h6
  by_cases h7 : k' = 7
  · have k7 : (k' == 7) = true := by simp; exact h7
    have hkd : decide (k' < 6) = false := decide_eq_false (by omega)
    rw [hkd]
    clear h6 h7 hkd
    go_enter Try.func93, Try.ntmps93
    go_wp2_with fail
    go_ret
    exact ⟨rfl, HB0.out⟩
  have k7 : (k' == 7) = false := by simp; exact h7
  have hkd : decide (k' < 6) = true := decide_eq_true (by omega)
  rw [hkd, Bool.true_and]
  clear hkd h6 h7
  go_enter Try.func93, Try.ntmps93
  go_wp2_with fail
  go_loopw [3] (fun iv wr => ∃ (j : Nat), iv = .int .i64 j ∧ j ≤ l'.length ∧ Hid (plainVs l' = plainVs (l'.drop j)) ∧ Hid (Below (w.heap.size + 1) (w.alloc (.cells #[.int .i64 k', .bool b', .int .i64 i', .string s', .slice la l'.length lc, .slice ka ks'.length kc] 71)) wr)) (fun iv _ => l'.length - (intOf iv).toNat)
  case atStart => exact ⟨0, rfl, Nat.zero_le _, Lib.hid rfl, Lib.hid (Below.refl _ _)⟩
  case round =>
    obtain ⟨j, rfl, hj, HN, HBW⟩ := hrel
    have HBR := Lib.hid (HB0.out.trans (HBW.out.mono (by omega)))
    have y4 := (HBX.out.below HBW.out (by omega)).cell (i := 4) rfl
    by_cases hlt : j < l'.length
    · have hlt' : (j : Int) < l'.length := by omega
      have hj0 : (0 : Int) ≤ (j : Int) := by omega
      obtain ⟨t, ht⟩ := get_some hlt
      have HPT := Lib.hid (plainVs_at ht)
      obtain ⟨eb, eo, k2, b2, i2, s2, l2, ks2, la2, lc2, ka2, kc2, rfl, rfl, heb, ⟨g0, g1, g2, g3, g4, g5⟩, hVt⟩ := (HLs.out.below HBR.out hB).at ht
      have hz := HBW.out.size
      obtain ⟨q, hq⟩ := HSUB.out j _ ht
      have HI := Lib.hid (IH.out j _ ht _ B wr (d - 1) q hVt (Nat.le_trans hB HBR.out.size) hq)
      clear hVt ht hq
      cases hpv : plainV (.mk k2 b2 i2 s2 l2 ks2) with
      | true =>
        rw [hpv] at HI HPT
        clear hpv
        go_wp2_with fail
        refine HI.out.mono ?_
        rintro e w2 ⟨rfl, hb2⟩
        have HB2 := Lib.hid (HBW.out.trans (hb2.mono (Nat.le_trans (by simp) hz)))
        clear hb2 g0 g1 g2 g3 g4 g5 y4
        go_wp2_with fail
        go_roundw
        case rel => exact ⟨j + 1, by go_num, by omega, Lib.hid (by rw [HN.out, HPT.out, Bool.true_and]), HB2⟩
        case measure => simp [intOf]; omega
      | false =>
        rw [hpv] at HI HPT
        clear hpv
        go_wp2_with fail
        refine HI.out.mono ?_
        rintro e w2 ⟨rfl, hb2⟩
        have HB2 := Lib.hid (below_step HBR.out rfl hb2)
        clear hb2 g0 g1 g2 g3 g4 g5 y4
        go_wp2_with fail
        go_ret
        exact ⟨by rw [HN.out, HPT.out, Bool.false_and]; rfl, HB2.out⟩
    · have hlt' : ¬ (j : Int) < l'.length := by omega
      have HF : Hid (plainVs l' = true) := Lib.hid (by rw [HN.out, List.drop_of_length_le (by omega)]; rfl)
      go_wp2_with fail
      go_ret
      exact ⟨by rw [HF.out]; rfl, HBR.out⟩
end Go.Proofs.Ytoakloicjlfaaaa

/- Layer 3: values whose memory is their own (no block twice): IsO. Conditions: none. -/
namespace Go.Proofs.Ytoakloicjlfaaaa
open Go.RowKit
set_option linter.unusedSimpArgs false
set_option linter.unusedVariables false

/-- A row of texts that lies in a block of its own. -/
def OwnStr (w : World) (ka : Option Addr) (ks : List ByteArray) (bs : List Nat) : Prop :=
  (ks = [] ∧ bs = []) ∨ ∃ kb cur ty, ka = some ⟨kb, 0, none⟩ ∧ bs = [kb] ∧ Block w kb cur ty ∧ ∀ (j : Nat) x, ks[j]? = some x → cur[j]? = some (Value.string x)
/-- What stands in a value's own cells. -/
def HeadV (k i : Int) (n lc m kc : Nat) (la ka : Option Addr) : Prop := in64 k ∧ in64 i ∧ (n ≤ lc ∧ lc ≤ 9223372036854775807) ∧ (m ≤ kc ∧ kc ≤ 9223372036854775807) ∧ (la = none → lc = 0) ∧ (ka = none → kc = 0)
mutual
/-- These cells are that value, and its memory is the blocks bs. -/
def IsO (w : World) : List Value → Vt → List Nat → Prop
  | cs, .mk k b i s l ks, bs => ∃ la lc ka kc b1 b2, cs = [.int .i64 k, .bool b, .int .i64 i, .string s, .slice la l.length lc, .slice ka ks.length kc] ∧ HeadV k i l.length lc ks.length kc la ka ∧ bs = b1 ++ b2 ∧ OwnStr w ka ks b1 ∧
      ((l = [] ∧ b2 = []) ∨ ∃ lb cur ty b3, la = some ⟨lb, 0, none⟩ ∧ b2 = lb :: b3 ∧ Block w lb cur ty ∧ IsOs w cur 0 l b3)
/-- From element n on the cells of a row hold those values. -/
def IsOs (w : World) : List Value → Nat → List Vt → List Nat → Prop
  | _, _, [], bs => bs = []
  | cur, n, t :: ts, bs => ∃ cs b1 b2, bs = b1 ++ b2 ∧ (∀ (j : Nat) v, cs[j]? = some v → cur[n * 6 + j]? = some v) ∧ IsO w cs t b1 ∧ IsOs w cur (n + 1) ts b2
end
theorem OwnStr.same {w w' : World} {ka : Option Addr} {ks : List ByteArray} {bs : List Nat} (h : OwnStr w ka ks bs) (hs : ∀ b ∈ bs, w'.heap[b]? = w.heap[b]?) : OwnStr w' ka ks bs := by
  rcases h with h | ⟨kb, cur, ty, h1, h2, h3, h4⟩
  · exact .inl h
  · exact .inr ⟨kb, cur, ty, h1, h2, h3.of_heap (hs kb (by rw [h2]; simp)), h4⟩
theorem OwnStr.row {w : World} {ka : Option Addr} {ks : List ByteArray} {bs : List Nat} {B : Nat} (h : OwnStr w ka ks bs) (hs : ∀ b ∈ bs, b < B) : StrRow B w ka ks := by
  rcases h with ⟨h, _⟩ | ⟨kb, cur, ty, h1, h2, h3, h4⟩
  · subst h; exact .inl rfl
  · refine .inr ⟨kb, 0, h1, hs kb (by rw [h2]; simp), fun i v hv => ?_⟩
    rw [List.getElem?_map] at hv
    cases hk : ks[i]? with
    | none => rw [hk] at hv; cases hv
    | some x => rw [hk] at hv; cases hv; rw [Nat.zero_add]; exact h3.cell (h4 i x hk)
theorem isOs_all {w : World} {p : Vt → List Nat → List Value → Prop} (l : List Vt) : ∀ (cur : List Value) (n : Nat) (bs : List Nat), IsOs w cur n l bs →
    ∀ (j : Nat) t, l[j]? = some t → ∃ cs b1 b2 b3, bs = b1 ++ b2 ++ b3 ∧ (∀ (q : Nat) v, cs[q]? = some v → cur[(n + j) * 6 + q]? = some v) ∧ IsO w cs t b2 := by
  induction l with
  | nil => intro _ _ _ _ j t h; simp at h
  | cons u us ih =>
    intro cur n bs h j t ht
    unfold IsOs at h
    obtain ⟨cs, b1, b2, h1, h2, h3, h4⟩ := h
    cases j with
    | zero => simp at ht; subst ht; exact ⟨cs, [], b1, b2, by rw [h1]; rfl, h2, h3⟩
    | succ j =>
      obtain ⟨cs', c1, c2, c3, g1, g2, g3⟩ := ih cur (n + 1) b2 h4 j t (by simpa using ht)
      refine ⟨cs', b1 ++ c1, c2, c3, by rw [h1, g1]; simp, ?_, g3⟩
      rwa [show n + 1 + j = n + (j + 1) from by omega] at g2
theorem IsOs.same {w w' : World} (l : List Vt) (ih : ∀ (j : Nat) t, l[j]? = some t → ∀ cs bs, IsO w cs t bs → (∀ b ∈ bs, w'.heap[b]? = w.heap[b]?) → IsO w' cs t bs) :
    ∀ (cur : List Value) (n : Nat) (bs : List Nat), IsOs w cur n l bs → (∀ b ∈ bs, w'.heap[b]? = w.heap[b]?) → IsOs w' cur n l bs := by
  induction l with
  | nil => intro cur n bs h _; unfold IsOs at h ⊢; exact h
  | cons u us ih2 =>
    intro cur n bs h hs
    unfold IsOs at h ⊢
    obtain ⟨cs, b1, b2, h1, h2, h3, h4⟩ := h
    subst h1
    exact ⟨cs, b1, b2, rfl, h2, ih 0 u rfl cs b1 h3 (fun b hb => hs b (by simp [hb])), ih2 (fun j t ht => ih (j + 1) t (by simpa using ht)) cur (n + 1) b2 h4 (fun b hb => hs b (by simp [hb]))⟩
theorem IsO.same {w w' : World} (t : Vt) : ∀ cs bs, IsO w cs t bs → (∀ b ∈ bs, w'.heap[b]? = w.heap[b]?) → IsO w' cs t bs := by
  refine t.down (p := fun t => ∀ cs bs, IsO w cs t bs → (∀ b ∈ bs, w'.heap[b]? = w.heap[b]?) → IsO w' cs t bs) fun k b i s l ks ih cs bs h hs => ?_
  unfold IsO at h ⊢
  obtain ⟨la, lc, ka, kc, b1, b2, h1, h2, h3, h4, h5⟩ := h
  subst h3
  refine ⟨la, lc, ka, kc, b1, b2, h1, h2, rfl, h4.same (fun b hb => hs b (by simp [hb])), ?_⟩
  rcases h5 with h5 | ⟨lb, cur, ty, b3, g1, g2, g3, g4⟩
  · exact .inl h5
  · subst g2
    exact .inr ⟨lb, cur, ty, b3, g1, rfl, g3.of_heap (hs lb (by simp)), IsOs.same l ih cur 0 b3 g4 (fun b hb => hs b (by simp [hb]))⟩
/-- A value of its own memory is a value. -/
theorem IsO.isV {w : World} {B : Nat} (t : Vt) : ∀ cs bs, IsO w cs t bs → (∀ b ∈ bs, b < B) → IsV B w cs t := by
  refine t.down (p := fun t => ∀ cs bs, IsO w cs t bs → (∀ b ∈ bs, b < B) → IsV B w cs t) fun k b i s l ks ih cs bs h hs => ?_
  unfold IsO at h
  unfold IsV
  obtain ⟨la, lc, ka, kc, b1, b2, h1, ⟨e1, e2, e3, e4, e5, e6⟩, h3, h4, h5⟩ := h
  subst h3
  refine ⟨la, lc, ka, kc, h1, e1, e2, e3, e4, e5, e6, h4.row (fun b hb => hs b (by simp [hb])), IsVs.mk fun j t ht => ?_⟩
  rcases h5 with ⟨h5, _⟩ | ⟨lb, cur, ty, b3, g1, g2, g3, g4⟩
  · subst h5; simp at ht
  · subst g2
    obtain ⟨cs', c1, c2, c3, f1, f2, f3⟩ := isOs_all (p := fun _ _ _ => True) l cur 0 b3 g4 j t ht
    exact ⟨lb, 0, cs', g1, hs lb (by simp), fun q v hv => by rw [Nat.zero_add]; exact g3.cell (f2 q v hv), ih j t ht cs' c2 f3 (fun b hb => hs b (by rw [f1]; simp [hb]))⟩
end Go.Proofs.Ytoakloicjlfaaaa

/- Layer 3: the contract of slices.Clone of texts. Conditions: at most 2^40 texts. -/
namespace Go.Proofs.Ytoakloicjlfaaaa
open Go.RowKit
set_option linter.unusedSimpArgs false
set_option linter.unusedVariables false

theorem Try.infoStr : (Try.prog.info? 9).map (fun i => (i.zero, i.size, i.bytes)) = some (some (.string ⟨#[]⟩), 1, 16) := by kernel_rfl
theorem eql_nil (w : World) (t e : TypeId) (a : Option Addr) (n c : Nat) (h : Try.prog.underlying t = some (.slice e)) : (binOp .eql t (.slice a n c) (.slice none 0 0)).run Try.prog w = .ok (.bool a.isNone) w := by
  simp only [binOp]
  simp [Op.equal, Op.maxDepth, Lib.run_equalIn_slice_nil w 9999 t e a n c 0 0 h]
/-- A row that the call owns is a row of texts of its own. -/
theorem OwnStr.of_own {w : World} {base : Nat} {e : TypeId} {v : Value} {ks : List ByteArray} (h : w.ownsRow base e 1 v ks.length (ks.map Value.string)) :
    ∃ ka kc bs, v = .slice ka ks.length kc ∧ OwnStr w ka ks bs ∧ (∀ b ∈ bs, base ≤ b ∧ b < w.heap.size) ∧ bs.Nodup ∧ (ka = none → kc = 0) ∧ (ks.length ≤ kc ∧ kc ≤ maxLen) := by
  rcases h.2 with ⟨h1, h2⟩ | ⟨g, cap, cur, h1, h2, h3, h4, h5, h6, h7⟩
  · have hk : ks = [] := List.eq_nil_of_length_eq_zero h2
    subst hk
    exact ⟨none, 0, [], h1, .inl ⟨rfl, rfl⟩, by simp, by simp, fun _ => rfl, ⟨Nat.le_refl _, by simp⟩⟩
  · refine ⟨some ⟨g, 0, none⟩, cap, [g], h1, .inr ⟨g, cur.toList, e, rfl, rfl, by unfold Block; simpa using h3, fun j x hx => ?_⟩, ?_, by simp, (fun h => by cases h), ⟨h4, h5⟩⟩
    · have hj : j < ks.length := (List.getElem?_eq_some_iff.1 hx).1
      have : (cur.toList.take (ks.length * 1))[j]? = some (.string x) := by rw [h7, List.getElem?_map, hx]; rfl
      rwa [List.getElem?_take_of_lt (by omega)] at this
    · intro b hb
      simp at hb
      subst hb
      exact ⟨h2, (Array.getElem?_eq_some_iff.1 h3).1⟩
def CloneP (ks : List ByteArray) (w : World) (e : Ending) (w' : World) : Prop := ∃ ka kc bs, e = .returned (.slice ka ks.length kc) ∧ Below w.heap.size w w' ∧ OwnStr w' ka ks bs ∧ (∀ b ∈ bs, w.heap.size ≤ b ∧ b < w'.heap.size) ∧ bs.Nodup ∧ (ka = none → kc = 0) ∧ (ks.length ≤ kc ∧ kc ≤ maxLen)
theorem clone_any (ks : List ByteArray) (ka : Option Addr) (kc B : Nat) (w : World) (hk : StrRow B w ka ks) (hB : B ≤ w.heap.size) (hz : ka = none → kc = 0) (hl : ks.length ≤ 1099511627776) :
    Calls Try.prog 79 #[.slice ka ks.length kc] w (CloneP ks w) := by
  cases ka with
  | none =>
    have hk0 : ks = [] := by
      rcases hk with h | ⟨b, off, h, _⟩
      · exact List.map_eq_nil_iff.1 h
      · cases h
    subst hk0
    obtain rfl := hz rfl
    have hn := fun w => eql_nil w 35 9 none 0 0 Try.underlying35
    go_enter Try.func79, Try.ntmps79
    go_wp2_with fail
    go_ret
    exact ⟨none, 0, [], by rfl, Below.refl _ _, .inl ⟨rfl, rfl⟩, by simp, by simp, fun _ => rfl, ⟨Nat.le_refl _, by simp⟩⟩
  | some ad =>
    have HK := Lib.hid hk
    clear hk hz
    have hn := fun w => eql_nil w 35 9 (some ad) ks.length kc Try.underlying35
    obtain ⟨i0, hi0, hz0, hz1, hz2⟩ := info_parts Try.infoStr
    have HO : (w.alloc (.cells #[] 9)).ownsRow w.heap.size 9 1 (.slice (some ⟨w.heap.size, 0, none⟩) 0 0) 0 [] := World.ownsRow_lit w #[] 0 (Nat.le_refl _) (by unfold maxLen; omega) rfl
    go_enter Try.func79, Try.ntmps79
    go_wp2_with (at_builtin; refine append_cells rfl _ _ 35 rfl w.heap.size 9 i0 (.string ⟨#[]⟩) 16 Try.underlying35 hi0 hz0 hz1 hz2 rfl _ 0 [] rfl HO (some ad) ks.length kc _ (ks.map Value.string) rfl (fun h => by cases h) (by simp) (Cells.below HK.out ((Below.refl w.heap.size w).alloc (Nat.le_refl _) _) hB) ?c2 ?c3 ?c4 ?c5 ?_)
    case c2 => intro u hu; simp at hu; obtain ⟨q, _, rfl⟩ := hu; rfl
    case c3 => unfold maxLen; omega
    case c4 => omega
    case c5 => simp
    intro v1 w5 hown5 hg5
    have hB5 : Below w.heap.size w w5 := ((Below.refl _ _).alloc (Nat.le_refl _) _).grown hg5 (by simp) (fun k hk => by simp [Value.ownBlock] at hk; omega)
    obtain ⟨ka', kc', bs, rfl, g1, g2, g3, g4, g5⟩ := OwnStr.of_own hown5
    clear hown5 hg5 HO
    go_wp2_with fail
    go_ret
    exact ⟨ka', kc', bs, by rfl, hB5, g1, g2, g3, g4, g5⟩
end Go.Proofs.Ytoakloicjlfaaaa

/- copy between rows of elements of any size. Conditions: none. -/
namespace Go.Proofs.Ytoakloicjlfaaaa
open Go.RowKit
set_option linter.unusedSimpArgs false
set_option linter.unusedVariables false

theorem run_copy_sized {P : Program} (w : World) (dT sT ty elem : TypeId) (g o dLen dCap : Nat) (a : Addr) (sLen sCap : Nat) (cur : Array Value) (t : TypeId) (cs : List Value) (n size : Nat)
    (hu : P.underlying dT = some (.slice elem)) (hs : (P.info? elem).map (·.size) = some size)
    (hg : w.heap[g]? = some (.cells cur t (0, 0))) (hn : n = Nat.min sLen dLen) (hc : cs.length = n * size)
    (hsrc : ∀ j v, cs[j]? = some v → w.cell? (a.add j) = some v) (hfit : o + cs.length ≤ cur.size) (h1 : ∀ v ∈ cs, v.oneCell' = true) :
    (Builtin.copy_ #[dT, sT] ty #[.slice (some ⟨g, o, none⟩) dLen dCap, .slice (some a) sLen sCap]).run P w =
      .ok (goInt n) (w.setRow g (cur.toList.take o ++ cs ++ cur.toList.drop (o + cs.length)).toArray) := by
  have hl := run_loadCells_list (P := P) w a cs hsrc
  have hst := run_storeCells_at P g o t cs 0 cur w hg (by simpa using hfit) h1
  rw [hc] at hl
  cases hq : P.info? elem with
  | none => simp [hq] at hs
  | some i =>
    have hi : i.size = size := by simpa [hq] using hs
    simp [Builtin.copy_, run_underlying hu, Builtin.lenOf, Builtin.firstCells, sizeOf, typeInfo, hq, hi, ← hn, hl, hst]
theorem run_copy_empty {P : Program} (w : World) (dT sT ty elem : TypeId) (dp sp : Option Addr) (dCap sCap sLen dLen size : Nat) (hu : P.underlying dT = some (.slice elem)) (hs : (P.info? elem).map (·.size) = some size) (hn : Nat.min sLen dLen = 0) :
    (Builtin.copy_ #[dT, sT] ty #[.slice dp dLen dCap, .slice sp sLen sCap]).run P w = .ok (goInt 0) w := by
  have hl := fun a => run_loadCells_list (P := P) w a [] (by simp)
  cases hq : P.info? elem with
  | none => simp [hq] at hs
  | some i =>
    cases sp <;> cases dp <;> simp [Builtin.copy_, run_underlying hu, Builtin.lenOf, Builtin.firstCells, sizeOf, typeInfo, hq, hn, storeCells] <;> first | done | (have := hl; simp at this; simp [this, storeCells])
open Go.RowKit in
theorem wpList_copy_sized {P : Program} {w : World} {ops : Array Oper} {rest : List Oper} {o : Oper} {a : Act} {Q : Exit → Act → World → Prop} (hgd : o.guard = none) (d s : Operand) (dT sT : TypeId)
    (ho : o.op = .call { callee := .builtin .copy, args := #[d, s], argTypes := #[dT, sT] }) (elem : TypeId) (hu : P.underlying dT = some (.slice elem)) (size : Nat) (hsz : (P.info? elem).map (·.size) = some size)
    (dp sp : Option Addr) (dLen dCap sLen sCap : Nat) (hd : a.eval d = .slice dp dLen dCap) (hs : a.eval s = .slice sp sLen sCap)
    (g off : Nat) (cur : List Value) (t : TypeId) (hg : w.heap[g]? = some (.cells cur.toArray t (0, 0))) (cs : List Value) (n : Nat) (hn : n = Nat.min sLen dLen) (hc : cs.length = n * size)
    (hpos : 0 < n → dp = some ⟨g, off, none⟩ ∧ ∃ ad, sp = some ad ∧ ∀ j v, cs[j]? = some v → w.cell? (ad.add j) = some v)
    (hfit : off + cs.length ≤ cur.length) (h1 : ∀ v ∈ cs, v.oneCell' = true) (B : Nat) (w0 : World) (hb : Below B w0 w) (hBg : B ≤ g)
    (h : ∀ w', Hid (w'.heap[g]? = some (.cells (splice cur off cs).toArray t (0, 0))) → Below B w0 w' → wpList P ops Q rest (a.put o.dst (goInt n)) w') :
    wpList P ops Q (o :: rest) a w := by
  by_cases h0 : n = 0
  · subst h0
    obtain rfl : cs = [] := List.eq_nil_of_length_eq_zero (by simpa using hc)
    refine wpList_plain hgd fun K hK => ?_
    have hrun := run_copy_empty (P := P) w dT sT o.type elem dp sp dCap sCap sLen dLen size hu hsz hn.symm
    unfold Oper.wp
    simp [execOp, ho, resolve, invoke, builtin, hd, hs, hrun, Result.andThen]
    exact hK _ _ (h w (show _ = _ by simpa [splice] using hg) hb)
  · obtain ⟨rfl, ad, rfl, hsrc⟩ := hpos (by omega)
    refine wpList_plain hgd fun K hK => ?_
    have hrun := run_copy_sized (P := P) w dT sT o.type elem g off dLen dCap ad sLen sCap cur.toArray t cs n size hu hsz hg hn hc hsrc (by simpa using hfit) h1
    unfold Oper.wp
    simp [execOp, ho, resolve, invoke, builtin, hd, hs, hrun, Result.andThen]
    exact hK _ _ (h _ (show _ = _ by simpa [splice] using setRow_heap w g _ _ t _ hg) (below_setRow hb hBg _))
end Go.Proofs.Ytoakloicjlfaaaa

/- Layer 3: rows of values of their own memory, grown and written. Conditions: none. -/
namespace Go.Proofs.Ytoakloicjlfaaaa
open Go.RowKit
set_option linter.unusedSimpArgs false
set_option linter.unusedVariables false

theorem IsO.six {w : World} {cs : List Value} {t : Vt} {bs : List Nat} (h : IsO w cs t bs) : cs.length = 6 := by
  obtain ⟨k, b, i, s, l, ks⟩ := t
  unfold IsO at h
  obtain ⟨la, lc, ka, kc, b1, b2, rfl, _⟩ := h
  rfl
/-- Only the cells of the row's own elements count. -/
theorem IsOs.cur {w : World} (l : List Vt) : ∀ (cur cur' : List Value) (n : Nat) (bs : List Nat), IsOs w cur n l bs → (∀ q, n * 6 ≤ q → q < (n + l.length) * 6 → cur'[q]? = cur[q]?) → IsOs w cur' n l bs := by
  induction l with
  | nil => intro cur cur' n bs h _; unfold IsOs at h ⊢; exact h
  | cons u us ih =>
    intro cur cur' n bs h hq
    unfold IsOs at h ⊢
    obtain ⟨cs, b1, b2, h1, h2, h3, h4⟩ := h
    refine ⟨cs, b1, b2, h1, fun j v hv => ?_, h3, ih cur cur' (n + 1) b2 h4 (fun q g1 g2 => hq q (by omega) (by simp; omega))⟩
    have hj : j < 6 := by have := (List.getElem?_eq_some_iff.1 hv).1; have := h3.six; omega
    rw [hq (n * 6 + j) (by omega) (by simp; omega)]
    exact h2 j v hv
/-- One element more. -/
theorem IsOs.snoc {w : World} {cs : List Value} {t : Vt} {b : List Nat} (ht : IsO w cs t b) (l : List Vt) : ∀ (cur : List Value) (n : Nat) (bs : List Nat), IsOs w cur n l bs →
    (∀ (j : Nat) v, cs[j]? = some v → cur[(n + l.length) * 6 + j]? = some v) → IsOs w cur n (l ++ [t]) (bs ++ b) := by
  induction l with
  | nil =>
    intro cur n bs h hc
    unfold IsOs at h
    subst h
    simp only [List.nil_append]
    unfold IsOs
    exact ⟨cs, b, [], by simp, by simpa using hc, ht, by unfold IsOs; rfl⟩
  | cons u us ih =>
    intro cur n bs h hc
    unfold IsOs at h
    obtain ⟨cs', b1, b2, h1, h2, h3, h4⟩ := h
    simp only [List.cons_append]
    unfold IsOs
    refine ⟨cs', b1, b2 ++ b, by rw [h1, List.append_assoc], h2, h3, ih cur (n + 1) b2 h4 (fun j v hv => ?_)⟩
    have := hc j v hv
    rwa [show n + (u :: us).length = n + 1 + us.length from by simp; omega] at this
/-- The cells of a row of values, one behind the other. -/
theorem row_cells {B : Nat} {w : World} {a : Option Addr} (l : List Vt) : ∀ (n : Nat), IsVs B w a n l → ∃ RC : List Value, RC.length = l.length * 6 ∧ (∀ v ∈ RC, v.oneCell' = true) ∧
    (∀ (j : Nat) t, l[j]? = some t → ∃ cs, cs.length = 6 ∧ IsV B w cs t ∧ ∀ (q : Nat) v, cs[q]? = some v → RC[j * 6 + q]? = some v) ∧
    (l ≠ [] → ∃ b off, a = some ⟨b, off, none⟩ ∧ b < B ∧ ∀ (q : Nat) v, RC[q]? = some v → w.cell? ⟨b, off + (n * 6 + q), none⟩ = some v) := by
  induction l with
  | nil => intro n _; exact ⟨[], rfl, by simp, by simp, fun h => absurd rfl h⟩
  | cons u us ih =>
    intro n h
    unfold IsVs at h
    obtain ⟨⟨b, off, cs, h1, h2, h3, h4⟩, h5⟩ := h
    obtain ⟨RC, g1, g2, g3, g4⟩ := ih (n + 1) h5
    have h6 : cs.length = 6 ∧ ∀ v ∈ cs, v.oneCell' = true := by
      obtain ⟨k, b, i, s, l2, ks⟩ := u
      unfold IsV at h4
      obtain ⟨la, lc, ka, kc, rfl, _⟩ := h4
      exact ⟨rfl, by intro v hv; simp at hv; rcases hv with rfl | rfl | rfl | rfl | rfl | rfl <;> rfl⟩
    refine ⟨cs ++ RC, by simp [g1, h6.1]; omega, ?_, ?_, fun _ => ⟨b, off, h1, h2, fun q v hv => ?_⟩⟩
    · intro v hv
      rcases List.mem_append.1 hv with h | h
      · exact h6.2 v h
      · exact g2 v h
    · intro j t ht
      cases j with
      | zero =>
        simp at ht; subst ht
        refine ⟨cs, h6.1, h4, fun q v hv => ?_⟩
        have hq : q < cs.length := (List.getElem?_eq_some_iff.1 hv).1
        rw [Nat.zero_mul, Nat.zero_add, List.getElem?_append_left hq]; exact hv
      | succ j =>
        obtain ⟨cs', f1, f2, f3⟩ := g3 j t (by simpa using ht)
        refine ⟨cs', f1, f2, fun q v hv => ?_⟩
        rw [List.getElem?_append_right (by omega), show (j + 1) * 6 + q - cs.length = j * 6 + q from by omega]
        exact f3 q v hv
    · by_cases hq : q < cs.length
      · rw [List.getElem?_append_left hq] at hv
        exact h3 q v hv
      · rw [List.getElem?_append_right (by omega)] at hv
        have hne : us ≠ [] := by rintro rfl; simp at g1; rw [g1] at hv; simp at hv
        obtain ⟨b', off', e1, e2, e3⟩ := g4 hne
        rw [h1] at e1
        cases e1
        have := e3 (q - cs.length) v hv
        rwa [show (n + 1) * 6 + (q - cs.length) = n * 6 + q from by omega] at this
/-- Six cells in a row written. -/
def set6 (w : World) (g o : Nat) (v0 v1 v2 v3 v4 v5 : Value) : World := (((((w.setCell ⟨g, o, none⟩ v0).setCell ⟨g, o + 1, none⟩ v1).setCell ⟨g, o + 2, none⟩ v2).setCell ⟨g, o + 3, none⟩ v3).setCell ⟨g, o + 4, none⟩ v4).setCell ⟨g, o + 5, none⟩ v5
def put6 (cur : List Value) (o : Nat) (v0 v1 v2 v3 v4 v5 : Value) : List Value := (((((cur.set o v0).set (o + 1) v1).set (o + 2) v2).set (o + 3) v3).set (o + 4) v4).set (o + 5) v5
theorem Block.set6 {w : World} {g : Nat} {cur : List Value} {ty : TypeId} (h : Block w g cur ty) (o : Nat) (v0 v1 v2 v3 v4 v5 : Value) : Block (set6 w g o v0 v1 v2 v3 v4 v5) g (put6 cur o v0 v1 v2 v3 v4 v5) ty :=
  (((((h.set o v0).set (o + 1) v1).set (o + 2) v2).set (o + 3) v3).set (o + 4) v4).set (o + 5) v5
theorem put6_len (cur : List Value) (o : Nat) (v0 v1 v2 v3 v4 v5 : Value) : (put6 cur o v0 v1 v2 v3 v4 v5).length = cur.length := by simp [put6]
theorem put6_out (cur : List Value) (o : Nat) (v0 v1 v2 v3 v4 v5 : Value) (q : Nat) (hq : q < o ∨ o + 6 ≤ q) : (put6 cur o v0 v1 v2 v3 v4 v5)[q]? = cur[q]? := by
  unfold put6
  rw [List.getElem?_set_ne (by omega), List.getElem?_set_ne (by omega), List.getElem?_set_ne (by omega), List.getElem?_set_ne (by omega), List.getElem?_set_ne (by omega), List.getElem?_set_ne (by omega)]
theorem put6_in (cur : List Value) (o : Nat) (v0 v1 v2 v3 v4 v5 : Value) (ho : o + 6 ≤ cur.length) (q : Nat) (v : Value) (hv : [v0, v1, v2, v3, v4, v5][q]? = some v) : (put6 cur o v0 v1 v2 v3 v4 v5)[o + q]? = some v := by
  unfold put6
  match q, hv with
  | 0, hv => cases hv; simp [List.getElem?_set]; omega
  | 1, hv => cases hv; simp [List.getElem?_set]; omega
  | 2, hv => cases hv; simp [List.getElem?_set]; omega
  | 3, hv => cases hv; simp [List.getElem?_set]; omega
  | 4, hv => cases hv; simp [List.getElem?_set]; omega
  | 5, hv => cases hv; simp [List.getElem?_set]; omega
theorem set6_size (w : World) (g o : Nat) (v0 v1 v2 v3 v4 v5 : Value) : (set6 w g o v0 v1 v2 v3 v4 v5).heap.size = w.heap.size := by simp [set6, World.setCell]
theorem set6_other (w : World) (g o : Nat) (v0 v1 v2 v3 v4 v5 : Value) (k : Nat) (hk : k ≠ g) : (set6 w g o v0 v1 v2 v3 v4 v5).heap[k]? = w.heap[k]? := by
  unfold set6
  rw [Below.heap_setCell _ _ _ _ hk, Below.heap_setCell _ _ _ _ hk, Below.heap_setCell _ _ _ _ hk, Below.heap_setCell _ _ _ _ hk, Below.heap_setCell _ _ _ _ hk, Below.heap_setCell _ _ _ _ hk]
theorem set6_below {B : Nat} {a w : World} (h : Below B a w) (g o : Nat) (hg : B ≤ g) (v0 v1 v2 v3 v4 v5 : Value) : Below B a (set6 w g o v0 v1 v2 v3 v4 v5) :=
  (((((h.setCell hg v0).setCell hg v1).setCell hg v2).setCell hg v3).setCell hg v4).setCell hg v5
/-- What a copy is: the same value, all of whose memory is new. -/
def CopyP (t : Vt) (w : World) (e : Ending) (w' : World) : Prop :=
  ∃ cs bs, e = .returned (.agg cs.toArray) ∧ Below w.heap.size w w' ∧ IsO w' cs t bs ∧ bs.Nodup ∧ ∀ b ∈ bs, w.heap.size ≤ b ∧ b < w'.heap.size
end Go.Proofs.Ytoakloicjlfaaaa

/- Layer 3: the contract of value.Copy, over trees. Conditions: the value is small. -/
namespace Go.Proofs.Ytoakloicjlfaaaa
open Go.RowKit
set_option linter.unusedSimpArgs false
set_option linter.unusedVariables false

theorem Try.infoVal : (Try.prog.info? 71).map (fun i => (i.zero, i.size, i.bytes)) = some (some (.agg #[.int .i64 0, .bool false, .int .i64 0, .string ⟨#[]⟩, .slice none 0 0, .slice none 0 0]), 6, 88) := by kernel_rfl
theorem keys_len (ks : List ByteArray) : ks.length ≤ (ks.map fun k => k.size + 1).sum := by
  induction ks with
  | nil => simp
  | cons x xs ih => simp; omega
def CopySaid (t : Vt) : Prop := ∀ (cs : List Value) (B : Nat) (w : World), IsV B w cs t → B ≤ w.heap.size → wtV t ≤ 1048576 → Calls Try.prog 94 #[.agg cs.toArray] w (CopyP t w)
set_option maxRecDepth 100000 in
set_option maxHeartbeats 4000000 in
theorem copy_any (t : Vt) : CopySaid t := by
  refine t.down (p := CopySaid) fun k b i s l ks ih cs B w hV hB hwt => ?_
  unfold IsV at hV
  obtain ⟨la, lc, ka, kc, rfl, hk64, hi64, ⟨hlc, hlm⟩, ⟨hkc, hkm⟩, hlz, hkz, hK, hL⟩ := hV
  have hln : l.length ≤ 1048576 := by have h1 := wtVs_len l; simp only [wtV] at hwt; omega
  have hkn : ks.length ≤ 1099511627776 := by have h1 := keys_len ks; simp only [wtV] at hwt; omega
  have IH := Lib.hid ih
  have HLs := Lib.hid hL
  have HKs := Lib.hid hK
  clear ih hL hK
  show Calls Try.prog 94 #[.agg #[.int .i64 k, .bool b, .int .i64 i, .string s, .slice la l.length lc, .slice ka ks.length kc]] w _
  have HB0 := Lib.hid (((Below.refl w.heap.size w).alloc (Nat.le_refl _) (.cells #[.int .i64 k, .bool b, .int .i64 i, .string s, .slice la l.length lc, .slice ka ks.length kc] 71)))
  obtain ⟨i0, hi0, hz0, hz1, hz2⟩ := info_parts Try.infoVal
  obtain ⟨Z, hZ, hmk⟩ : ∃ Z : List Value, Z.length = l.length * 6 ∧ ∀ w : World, (Instr.makeSlice 36 (.int .i64 (l.length : Int)) (.int .i64 (l.length : Int))).run Try.prog w = .ok (.slice (some ⟨w.heap.size, 0, none⟩) l.length l.length) (w.alloc (.cells Z.toArray 71)) := by
    refine ⟨(madeCells (Value.agg #[.int .i64 0, .bool false, .int .i64 0, .string ⟨#[]⟩, .slice none 0 0, .slice none 0 0]).cells (l.length * 6)).toList, by simp [size_madeCells], fun w => ?_⟩
    have hr := run_make (P := Try.prog) w 36 71 i0 _ Try.underlying36 hi0 hz0 .i64 .i64 l.length l.length (by omega) (Int.le_refl _) (by rw [hz2]; omega) (by omega)
    rw [hz1] at hr
    simpa using hr
  obtain ⟨RC, hr1, hr2, hr3, hr4⟩ := row_cells l 0 HLs.out
  have hsz : (Try.prog.info? 71).map (·.size) = some 6 := by kernel_rfl
  go_enter Try.func94, Try.ntmps94
  go_wp2_with (with_reducible refine wpList_copy_sized rfl _ _ 36 36 rfl 71 Try.underlying36 6 hsz (some ⟨w.heap.size + 2, 0, none⟩) la l.length l.length l.length lc rfl rfl (w.heap.size + 2) 0 Z 71 ?cg RC l.length (by simp) hr1 ?cp ?cf hr2 (w.heap.size + 2) _ (Below.refl _ _) (Nat.le_refl _) ?_)
  case cg =>
    have h := Block.new ((w.alloc (.cells #[.int .i64 k, .bool b, .int .i64 i, .string s, .slice la l.length lc, .slice ka ks.length kc] 71)).alloc (.cells #[.int .i64 0, .bool false, .int .i64 0, .string ⟨#[]⟩, .slice none 0 0, .slice none 0 0] 71)) Z 71
    unfold Block at h
    simpa using h
  case cp =>
    intro hpos
    obtain ⟨b', off, rfl, hb', hc'⟩ := hr4 (by rintro rfl; simp at hpos)
    refine ⟨_, rfl, fun j v hv => ?_⟩
    have h1 := hc' j v hv
    rw [Nat.zero_mul, Nat.zero_add] at h1
    rw [addr_add, ((HB0.out.alloc (by simp) _).alloc (by simp; omega) _).cell (by show b' < w.heap.size; omega)]
    exact h1
  case cf => omega
  intro w1 hw1 hb1
  have hsp : splice Z 0 RC = RC := by unfold splice; simp [List.drop_of_length_le (show Z.length ≤ RC.length by omega)]
  rw [hsp] at hw1
  have HW1 : Hid (Block w1 (w.heap.size + 2) RC 71) := Lib.hid hw1.out
  have HB1 := Lib.hid hb1
  clear hw1 hb1 hsp hmk
  obtain ⟨G, hG⟩ : ∃ G, w.heap.size + 1 + 1 = G := ⟨_, rfl⟩
  have HG := Lib.hid hG
  go_wp2_with fail
  rw [hG]
  clear hG
  go_loopw [15] (fun iv wr => ∃ (j : Nat) (cur : List Value) (bs : List Nat), iv = .int .i64 j ∧ j ≤ l.length ∧ Hid (Block wr (w.heap.size + 2) cur 71) ∧ Hid (cur.length = l.length * 6) ∧ Hid (IsOs wr cur 0 (l.take j) bs) ∧ Hid (bs.Nodup ∧ ∀ b ∈ bs, w.heap.size + 3 ≤ b ∧ b < wr.heap.size) ∧ Hid (∀ q, j * 6 ≤ q → cur[q]? = RC[q]?) ∧ Hid (Below (w.heap.size + 2) (((w.alloc (.cells #[.int .i64 k, .bool b, .int .i64 i, .string s, .slice la l.length lc, .slice ka ks.length kc] 71)).alloc (.cells #[.int .i64 0, .bool false, .int .i64 0, .string ⟨#[]⟩, .slice none 0 0, .slice none 0 0] 71)).alloc (.cells Z.toArray 71)) wr)) (fun iv _ => l.length - (intOf iv).toNat)
  case atStart => exact ⟨0, RC, [], rfl, Nat.zero_le _, HW1, Lib.hid hr1, Lib.hid (by unfold IsOs; rfl), Lib.hid ⟨by simp, by simp⟩, Lib.hid (fun _ _ => rfl), HB1⟩
  case round =>
    obtain ⟨j, cur, bs, rfl, hj, HCUR, HCL, HOS, HND, HRC, HBW⟩ := hrel
    have HBR : Hid (Below w.heap.size w wr) := Lib.hid (((HB0.out.alloc (by simp) _).alloc (by simp; omega) _).trans (HBW.out.mono (by omega)))
    have hz : w.heap.size + 3 ≤ wr.heap.size := by have := HBW.out.size; simpa using this
    by_cases hlt : j < l.length
    · have hlt' : (j : Int) < l.length := by omega
      have hj0 : (0 : Int) ≤ (j : Int) := by omega
      obtain ⟨t, ht⟩ := get_some hlt
      obtain ⟨cs, hc6, hVt, hcq⟩ := hr3 j t ht
      have hwtj : wtV t ≤ 1048576 := by have h1 := wtVs_get ht; simp only [wtV] at hwt; omega
      have HVt := Lib.hid (IsV.below HBR.out hB _ _ hVt)
      obtain ⟨k2, b2, i2, s2, l2, ks2⟩ := t
      unfold IsV at hVt
      obtain ⟨la2, lc2, ka2, kc2, rfl, -⟩ := hVt
      have hcell : ∀ q v, [Value.int .i64 k2, .bool b2, .int .i64 i2, .string s2, .slice la2 l2.length lc2, .slice ka2 ks2.length kc2][q]? = some v → wr.cell? ⟨G, j * 6 + q, none⟩ = some v := fun q v hv => (by rw [← HG.out]; exact HCUR.out.cell (by rw [HRC.out _ (by omega)]; exact hcq q v hv))
      have HRQ := Lib.hid (fun q v (hv : [Value.int .i64 k2, .bool b2, .int .i64 i2, .string s2, .slice la2 l2.length lc2, .slice ka2 ks2.length kc2][q]? = some v) => (HRC.out _ (by omega)).trans (hcq q v hv))
      have g0 := hcell 0 _ rfl
      have g1 := hcell 1 _ rfl
      have g2 := hcell 2 _ rfl
      have g3 := hcell 3 _ rfl
      have g4 := hcell 4 _ rfl
      have g5 := hcell 5 _ rfl
      rw [Nat.add_zero] at g0
      have HCO := Lib.hid (IH.out j _ ht _ B wr HVt.out (Nat.le_trans hB HBR.out.size) hwtj)
      have HTJ := Lib.hid ht
      clear hcell hcq ht hwtj hc6
      go_wp2_with fail
      refine HCO.out.mono ?_
      rintro e w2 ⟨cs', bs', rfl, hb2, ho2, hn2, hbs2⟩
      have ho3 := ho2
      unfold IsO at ho3
      obtain ⟨la3, lc3, ka3, kc3, c1, c2, rfl, -, -, -⟩ := ho3
      have hB2 : Block w2 G cur 71 := by rw [← HG.out]; exact HCUR.out.below hb2 (by omega)
      have d0 := hB2.cell (HRQ.out 0 _ rfl)
      have d1 := hB2.cell (HRQ.out 1 _ rfl)
      have d2 := hB2.cell (HRQ.out 2 _ rfl)
      have d3 := hB2.cell (HRQ.out 3 _ rfl)
      have d4 := hB2.cell (HRQ.out 4 _ rfl)
      have d5 := hB2.cell (HRQ.out 5 _ rfl)
      have e0 := hB2.free (j * 6)
      have e1 := hB2.free (j * 6 + 1)
      have e2 := hB2.free (j * 6 + 2)
      have e3 := hB2.free (j * 6 + 3)
      have e4 := hB2.free (j * 6 + 4)
      have e5 := hB2.free (j * 6 + 5)
      rw [Nat.add_zero] at d0
      have HB2 := Lib.hid hB2
      have HBW2 := Lib.hid hb2
      have HO2 := Lib.hid ho2
      have HN2 := Lib.hid (show _ ∧ _ from ⟨hn2, hbs2⟩)
      clear hB2 hb2 ho2 hn2 hbs2 g0 g1 g2 g3 g4 g5
      go_wp2_with fail
      go_roundw
      case rel =>
        have hG : w.heap.size + 2 = G := HG.out
        have hcl := HCL.out
        refine ⟨j + 1, put6 cur (j * 6) (.int .i64 k2) (.bool b2) (.int .i64 i2) (.string s2) (.slice la3 l2.length lc3) (.slice ka3 ks2.length kc3), bs ++ bs', by go_num, by omega, Lib.hid (by rw [hG]; exact HB2.out.set6 (j * 6) (.int .i64 k2) (.bool b2) (.int .i64 i2) (.string s2) (.slice la3 l2.length lc3) (.slice ka3 ks2.length kc3)), Lib.hid (by rw [put6_len]; exact hcl), ?_, ?_, Lib.hid (fun q hq => by rw [put6_out _ _ _ _ _ _ _ _ q (by omega)]; exact HRC.out q (by omega)), Lib.hid (set6_below (HBW.out.trans (HBW2.out.mono (by omega))) G (j * 6) (by omega) (.int .i64 k2) (.bool b2) (.int .i64 i2) (.string s2) (.slice la3 l2.length lc3) (.slice ka3 ks2.length kc3))⟩
        · refine Lib.hid ?_
          rw [take_succ_some HTJ.out]
          have hs : ∀ b ∈ bs, (set6 w2 G (j * 6) (.int .i64 k2) (.bool b2) (.int .i64 i2) (.string s2) (.slice la3 l2.length lc3) (.slice ka3 ks2.length kc3)).heap[b]? = wr.heap[b]? := fun b hb => by
            have h1 := HND.out.2 b hb
            rw [set6_other _ _ _ _ _ _ _ _ _ _ (by omega)]
            exact HBW2.out.block b (by omega)
          have hs' : ∀ b ∈ bs', (set6 w2 G (j * 6) (.int .i64 k2) (.bool b2) (.int .i64 i2) (.string s2) (.slice la3 l2.length lc3) (.slice ka3 ks2.length kc3)).heap[b]? = w2.heap[b]? := fun b hb => by
            have h1 := HN2.out.2 b hb
            rw [set6_other _ _ _ _ _ _ _ _ _ _ (by omega)]
          have h1 := IsOs.same (l.take j) (fun _ t _ cs bs h hb => IsO.same t cs bs h hb) _ _ _ HOS.out hs
          have hlj : (l.take j).length = j := by simp; omega
          refine IsOs.snoc (IsO.same _ _ _ HO2.out hs') (l.take j) _ _ _ (IsOs.cur (l.take j) _ _ _ _ h1 (fun q _ hq => put6_out _ _ _ _ _ _ _ _ q (by rw [hlj] at hq; omega))) (fun q v hv => ?_)
          rw [hlj, Nat.zero_add]
          exact put6_in _ _ _ _ _ _ _ _ (by omega) q v hv
        · refine Lib.hid ⟨List.nodup_append.2 ⟨HND.out.1, HN2.out.1, fun x hx y hy => ?_⟩, fun b hb => ?_⟩
          · have h1 := HND.out.2 x hx
            have h2 := HN2.out.2 y hy
            omega
          · have hz2 := HBW2.out.size
            show _ ∧ b < (set6 w2 G (j * 6) (.int .i64 k2) (.bool b2) (.int .i64 i2) (.string s2) (.slice la3 l2.length lc3) (.slice ka3 ks2.length kc3)).heap.size
            rw [set6_size]
            rcases List.mem_append.1 hb with h | h
            · have h1 := HND.out.2 b h; omega
            · have h1 := HN2.out.2 b h; omega
      case measure => simp [intOf]; omega
    · have hlt' : ¬ (j : Int) < l.length := by omega
      have hjl : j = l.length := by omega
      have HOS2 : Hid (IsOs wr cur 0 l bs) := Lib.hid (by have := HOS.out; rwa [List.take_of_length_le (by omega)] at this)
      have hX := (((Block.new w [.int .i64 k, .bool b, .int .i64 i, .string s, .slice la l.length lc, .slice ka ks.length kc] 71).alloc (.cells #[.int .i64 0, .bool false, .int .i64 0, .string ⟨#[]⟩, .slice none 0 0, .slice none 0 0] 71)).alloc (.cells Z.toArray 71)).below HBW.out (by omega)
      have hZ := ((Block.new (w.alloc (.cells #[.int .i64 k, .bool b, .int .i64 i, .string s, .slice la l.length lc, .slice ka ks.length kc] 71)) [.int .i64 0, .bool false, .int .i64 0, .string ⟨#[]⟩, .slice none 0 0, .slice none 0 0] 71).alloc (.cells Z.toArray 71)).below HBW.out (by simp)
      have HX := Lib.hid hX
      have HZ : Hid (Block wr (w.heap.size + 1) [.int .i64 0, .bool false, .int .i64 0, .string ⟨#[]⟩, .slice none 0 0, .slice none 0 0] 71) := Lib.hid (by simpa using hZ)
      have x4 := hX.cell (i := 4) rfl
      have x5 := hX.cell (i := 5) rfl
      have y4 := hX.free 4
      clear hX hZ
      have HSX := Lib.hid (HX.out.set 4 (.slice (some ⟨G, 0, none⟩) l.length l.length))
      have HBS : Hid (Below w.heap.size w (wr.setCell ⟨w.heap.size, 4, none⟩ (.slice (some ⟨G, 0, none⟩) l.length l.length))) := Lib.hid (HBR.out.setCell (Nat.le_refl _) _)
      have HCL1 := Lib.hid (clone_any ks ka kc B _ (HKs.out.below HBS.out hB) (Nat.le_trans hB HBS.out.size) hkz hkn)
      clear hkz hlz
      go_wp2_with fail
      refine HCL1.out.mono ?_
      rintro e w3 ⟨ka', kc', bk, rfl, hb3, hos3, hbk3, hnd3, hkz3, hkc3⟩
      have hs3 : (wr.setCell ⟨w.heap.size, 4, none⟩ (.slice (some ⟨G, 0, none⟩) l.length l.length)).heap.size = wr.heap.size := by simp [World.setCell]
      have hX3 := HSX.out.below hb3 (by rw [hs3]; omega)
      have hZ3 : Block w3 (w.heap.size + 1) _ _ := (HZ.out.set_other (a := ⟨w.heap.size, 4, none⟩) (by simp) _).below hb3 (by rw [hs3]; omega)
      have t0 := hX3.cell (i := 0) rfl
      have t1 := hX3.cell (i := 1) rfl
      have t2 := hX3.cell (i := 2) rfl
      have t3 := hX3.cell (i := 3) rfl
      have t4 := hX3.cell (i := 4) rfl
      have t5 := hX3.cell (i := 5) rfl
      have f5 := hX3.free 5
      have z0 := hZ3.cell (i := 0) rfl
      have z1 := hZ3.cell (i := 1) rfl
      have z2 := hZ3.cell (i := 2) rfl
      have z3 := hZ3.cell (i := 3) rfl
      have z4 := hZ3.cell (i := 4) rfl
      have z5 := hZ3.cell (i := 5) rfl
      have n0 := hZ3.free 0
      have n1 := hZ3.free 1
      have n2 := hZ3.free 2
      have n3 := hZ3.free 3
      have n4 := hZ3.free 4
      have n5 := hZ3.free 5
      have HB3 := Lib.hid hb3
      have HS3 := Lib.hid hs3
      have HEND := Lib.hid (show OwnStr w3 ka' ks bk ∧ _ ∧ _ ∧ _ ∧ _ from ⟨hos3, hbk3, hnd3, hkz3, hkc3⟩)
      have hZ4 := hZ3.set_other (a := ⟨w.heap.size, 5, none⟩) (by simp) (.slice ka' ks.length kc')
      have h0 := hZ4.set 0 (.int .i64 k)
      have h1 := h0.set 1 (.bool b)
      have h2 := h1.set 2 (.int .i64 i)
      have h3 := h2.set 3 (.string s)
      have h4 := h3.set 4 (.slice (some ⟨G, 0, none⟩) l.length l.length)
      have h5 := h4.set 5 (.slice ka' ks.length kc')
      have q0 := h0.cell (i := 0) rfl
      have q1 := h1.cell (i := 1) rfl
      have q2 := h2.cell (i := 2) rfl
      have q3 := h3.cell (i := 3) rfl
      have q4 := h4.cell (i := 4) rfl
      have q5 := h5.cell (i := 5) rfl
      clear h0 h1 h2 h3 h4 h5 hZ4
      clear hb3 hos3 hbk3 hnd3 hkz3 hkc3 hX3 hZ3 x4 x5 y4 hs3
      go_wp2_with fail
      refine bodyPost_ret (by simp [results, Try.results94, go_sem, q0, q1, q2, q3, q4, q5]; rfl) rfl ?_
      have hG : w.heap.size + 2 = G := HG.out
      obtain ⟨e1, e2, e3, e4, e5, e6⟩ := HEND.out
      have hs3 := HS3.out
      have hb3 := HB3.out
      have hz3 : wr.heap.size ≤ w3.heap.size := by rw [← hs3]; exact hb3.size
      rw [hs3] at e2
      obtain ⟨wF, hwF⟩ : ∃ wF, set6 (w3.setCell ⟨w.heap.size, 5, none⟩ (.slice ka' ks.length kc')) (w.heap.size + 1) 0 (.int .i64 k) (.bool b) (.int .i64 i) (.string s) (.slice (some ⟨G, 0, none⟩) l.length l.length) (.slice ka' ks.length kc') = wF := ⟨_, rfl⟩
      show CopyP _ w _ (set6 (w3.setCell ⟨w.heap.size, 5, none⟩ (.slice ka' ks.length kc')) (w.heap.size + 1) 0 (.int .i64 k) (.bool b) (.int .i64 i) (.string s) (.slice (some ⟨G, 0, none⟩) l.length l.length) (.slice ka' ks.length kc'))
      have hFz : wF.heap.size = w3.heap.size := by rw [← hwF, set6_size]; simp [World.setCell]
      have hF3 : ∀ q, w.heap.size + 2 ≤ q → wF.heap[q]? = w3.heap[q]? := fun q hq => by
        rw [← hwF, set6_other _ _ _ _ _ _ _ _ _ _ (by omega), Below.heap_setCell _ _ _ _ (by show q ≠ w.heap.size; omega)]
      have hFr : ∀ q, w.heap.size + 2 ≤ q → q < wr.heap.size → wF.heap[q]? = wr.heap[q]? := fun q hq hq2 => by
        rw [hF3 q hq, hb3.block q (by rw [hs3]; exact hq2), Below.heap_setCell _ _ _ _ (by show q ≠ w.heap.size; omega)]
      have hBF : Below w.heap.size w wF := by
        rw [← hwF]
        exact set6_below (((HBS.out.trans (hb3.mono (by rw [hs3]; omega)))).setCell (Nat.le_refl _) _) _ _ (by omega) _ _ _ _ _ _
      rw [hwF]
      have hlbl : ∀ b ∈ bs, w.heap.size + 3 ≤ b ∧ b < wr.heap.size := HND.out.2
      refine ⟨[.int .i64 k, .bool b, .int .i64 i, .string s, .slice (some ⟨G, 0, none⟩) l.length l.length, .slice ka' ks.length kc'], bk ++ (G :: bs), rfl, hBF, ?_, ?_, ?_⟩
      · unfold IsO
        refine ⟨some ⟨G, 0, none⟩, l.length, ka', kc', bk, G :: bs, rfl, ⟨hk64, hi64, ⟨Nat.le_refl _, by omega⟩, ⟨e5, by have := e6; unfold maxLen at this; omega⟩, (fun h => by cases h), e4⟩, rfl, ?_, .inr ⟨G, cur, 71, bs, rfl, rfl, ?_, ?_⟩⟩
        · exact e1.same fun q hq => hF3 q (by have := (e2 q hq).1; omega)
        · exact (show Block wr G cur _ by rw [← hG]; exact HCUR.out).of_heap (hFr G (by omega) (by omega))
        · exact IsOs.same l (fun _ t _ cs bs h hb => IsO.same t cs bs h hb) _ _ _ HOS2.out fun q hq => hFr q (by have := (hlbl q hq).1; omega) (hlbl q hq).2
      · refine List.nodup_append.2 ⟨e3, List.nodup_cons.2 ⟨fun h => by have := (hlbl G h).1; omega, HND.out.1⟩, fun x hx y hy => ?_⟩
        have h1 := (e2 x hx).1
        rcases List.mem_cons.1 hy with rfl | hy
        · omega
        · have h2 := (hlbl y hy).2; omega
      · intro q hq
        rw [hFz]
        rcases List.mem_append.1 hq with hq | hq
        · have := e2 q hq; omega
        · rcases List.mem_cons.1 hq with rfl | hq
          · omega
          · have := hlbl q hq; omega
end Go.Proofs.Ytoakloicjlfaaaa

/- append of cells that lie anywhere to a row that the call owns, and where the new row lies. Conditions: none. -/
namespace Go.Proofs.Ytoakloicjlfaaaa
open Go.RowKit

/-- v is a row of the call's own, in a block from base on, with these cells. -/
def OwnRow (w : World) (base : Nat) (e : TypeId) (size : Nat) (v : Value) (n : Nat) (xs : List Value) : Prop :=
  w.ownsRow base e size v n xs ∧ ∃ a cap, v = .slice a n cap
theorem own_form {w : World} {base : Nat} {e : TypeId} {size : Nat} {v : Value} {n : Nat} {xs : List Value} (h : w.ownsRow base e size v n xs) : ∃ a cap, v = .slice a n cap := by
  rcases h.2 with ⟨h1, rfl⟩ | ⟨g, cap, cur, h1, _⟩
  · exact ⟨_, _, h1⟩
  · exact ⟨_, _, h1⟩
theorem own_cells_of {base : Nat} {w : World} {e : TypeId} {size : Nat} {a : Option Addr} {n cap : Nat} {xs : List Value} (h : w.ownsRow base e size (.slice a n cap) n xs) : Cells w.heap.size w a xs := by
  have hh := h
  obtain ⟨hl, h1⟩ := h
  rcases h1 with ⟨h2, h3⟩ | ⟨g, c, cur, h2, hg, hh1, hn, hm, hs, ht⟩
  · subst h3; exact .inl (by simpa using hl)
  · injection h2 with e1 e2 e3; subst e1
    refine .inr ⟨g, 0, rfl, (Array.getElem?_eq_some_iff.1 hh1).1, fun i v hi => ?_⟩
    have := World.ownsRow.cells hh (g := g) rfl i v hi
    simpa [addr_add] using this
theorem own_capz {base : Nat} {w : World} {e : TypeId} {size : Nat} {a : Option Addr} {n cap : Nat} {xs : List Value} (h : w.ownsRow base e size (.slice a n cap) n xs) : a = none → cap = 0 := by
  rintro rfl
  rcases h.2 with ⟨h2, h3⟩ | ⟨g, c, cur, h2, _⟩
  · injection h2
  · cases h2
theorem own_cap {base : Nat} {w : World} {e : TypeId} {size : Nat} {a : Option Addr} {n cap : Nat} {xs : List Value} (h : w.ownsRow base e size (.slice a n cap) n xs) : n ≤ cap ∧ cap ≤ maxLen := by
  rcases h.2 with ⟨h2, h3⟩ | ⟨g, c, cur, h2, hg, hh1, hn, hm, hs, ht⟩
  · injection h2 with _ _ h4; subst h3 h4; exact ⟨Nat.le_refl _, Nat.zero_le _⟩
  · injection h2 with _ _ h4; subst h4; exact ⟨hn, hm⟩
theorem own_mono {w : World} {B B' : Nat} {e : TypeId} {size : Nat} {v : Value} {n : Nat} {xs : List Value} (h : w.ownsRow B e size v n xs) (hb : B' ≤ B) : w.ownsRow B' e size v n xs := by
  obtain ⟨h1, h2⟩ := h
  refine ⟨h1, ?_⟩
  rcases h2 with h2 | ⟨g, c, cur, h3, h4, h5⟩
  · exact .inl h2
  · exact .inr ⟨g, c, cur, h3, Nat.le_trans hb h4, h5⟩
theorem own_raise {w : World} {B B' : Nat} {e : TypeId} {size : Nat} {v : Value} {n : Nat} {xs : List Value} (h : w.ownsRow B e size v n xs) (hb : ∀ k, v.ownBlock = some k → B' ≤ k) : w.ownsRow B' e size v n xs := by
  obtain ⟨h1, h2⟩ := h
  refine ⟨h1, ?_⟩
  rcases h2 with h2 | ⟨g, c, cur, h3, h4, h5⟩
  · exact .inl h2
  · exact .inr ⟨g, c, cur, h3, hb g (by rw [h3]; rfl), h5⟩
theorem own_of_heap {w w' : World} {B : Nat} {e : TypeId} {size : Nat} {v : Value} {n : Nat} {xs : List Value} (h : w.ownsRow B e size v n xs) (hh : ∀ k, v.ownBlock = some k → w'.heap[k]? = w.heap[k]?) : w'.ownsRow B e size v n xs := by
  obtain ⟨h1, h2⟩ := h
  refine ⟨h1, ?_⟩
  rcases h2 with h2 | ⟨g, c, cur, h3, h4, h5, h6⟩
  · exact .inl h2
  · exact .inr ⟨g, c, cur, h3, h4, (hh g (by rw [h3]; rfl)).trans h5, h6⟩
theorem own_setCell {w : World} {base : Nat} {e : TypeId} {size : Nat} {v : Value} {n : Nat} {xs : List Value} (h : w.ownsRow base e size v n xs) {a : Addr} (hne : v.ownBlock ≠ some a.block) (u : Value) : (w.setCell a u).ownsRow base e size v n xs :=
  own_of_heap h fun k hk => Below.heap_setCell _ _ _ _ (fun e => hne (by rw [hk, e]))
theorem Cells.alloc' {B : Nat} {w : World} {a : Option Addr} {vs : List Value} (h : Cells B w a vs) (o : Obj) : Cells B (w.alloc o) a vs := by
  rcases h with h | ⟨b, off, h1, h2, h3⟩
  · exact .inl h
  · refine .inr ⟨b, off, h1, h2, fun i v hi => ?_⟩
    have := h3 i v hi
    rw [World.cell?_of_block (Below.heap_alloc w o _ (World.block_lt_of_cell? w _ this))]; exact this
theorem Cells.take {B : Nat} {w : World} {a : Option Addr} {vs : List Value} (h : Cells B w a vs) (n : Nat) : Cells B w a (vs.take n) := by
  rcases h with h | ⟨b, off, h1, h2, h3⟩
  · exact .inl (by simp [h])
  · refine .inr ⟨b, off, h1, h2, fun i v hi => h3 i v ?_⟩
    rw [List.getElem?_take] at hi; split at hi
    · exact hi
    · cases hi
theorem Cells.drop {B : Nat} {w : World} {b off : Nat} {vs : List Value} (h : Cells B w (some ⟨b, off, none⟩) vs) (n : Nat) : Cells B w (some ⟨b, off + n, none⟩) (vs.drop n) := by
  rcases h with h | ⟨b', off', h1, h2, h3⟩
  · exact .inl (by simp [h])
  · injection h1 with h1; injection h1 with e1 e2; subst e1 e2
    refine .inr ⟨_, _, rfl, h2, fun i v hi => ?_⟩
    rw [List.getElem?_drop] at hi
    rw [Nat.add_assoc]; exact h3 _ v hi
theorem Cells.of_heap {B : Nat} {w w' : World} {a : Option Addr} {vs : List Value} (h : Cells B w a vs) (hh : ∀ x, a = some x → w'.heap[x.block]? = w.heap[x.block]?) (hB : B ≤ w.heap.size) (hw : w.heap.size ≤ w'.heap.size) : Cells w'.heap.size w' a vs := by
  rcases h with h | ⟨b, off, h1, h2, h3⟩
  · exact .inl h
  · subst h1
    exact .inr ⟨b, off, rfl, by omega, fun i v hi => (World.cell?_of_block (a := ⟨b, off + i, none⟩) (hh ⟨b, off, none⟩ rfl)).trans (h3 i v hi)⟩

section
variable {P : Program} {w : World}
/-- append, whatever is appended: where the new row lies is said too. -/
theorem run_append_rows (t ty : TypeId) (base : Nat) (e : TypeId) (i : TypeInfo) (z : Value) (size bytes : Nat) (ht : P.underlying t = some (.slice e)) (hi : P.info? e = some i) (hz : i.zero = some z)
    (hsize : i.size = size) (hby : i.bytes = bytes) (hzs : z.cells.size = size) (hsz : 0 < size)
    (v : Value) (n : Nat) (xs : List Value) (hown : w.ownsRow base e size v n xs)
    (ad : Option Addr) (m c B : Nat) (news : List Value) (hnone : ad = none → c = 0) (hl : news.length = m * size) (hc : Cells B w ad news) (h1 : ∀ u ∈ news, u.oneCell' = true)
    (h63 : n + m ≤ maxLen) (hbytes : (n + m) * bytes ≤ 140737488355328) (hbase : base ≤ w.heap.size) :
    ∃ a' cap' w', (Builtin.append_ #[t, t] ty #[v, .slice ad m c]).run P w = .ok (.slice a' (n + m) cap') w' ∧ w'.ownsRow base e size (.slice a' (n + m) cap') (n + m) (xs ++ news) ∧ w.grownBy w' v.ownBlock ∧
      ((Value.slice a' (n + m) cap').ownBlock = v.ownBlock ∨ (Value.slice a' (n + m) cap').ownBlock = some w.heap.size) := by
  cases ad with
  | none =>
    have hn : news = [] := by
      rcases hc with h | ⟨b, off, h, _⟩
      · exact h
      · cases h
    subst hn
    have hm0 : m = 0 := by
      rcases Nat.eq_zero_or_pos m with h | h
      · exact h
      · have := Nat.mul_pos h hsz; simp at hl; omega
    subst hm0
    obtain rfl := hnone rfl
    obtain ⟨a, cap, rfl⟩ := own_form hown
    refine ⟨a, cap, w, ?_, by simpa using hown, ⟨rfl, rfl, rfl, Nat.le_refl _, fun _ _ _ => rfl⟩, .inl rfl⟩
    exact run_append_owned_none (P := P) (w := w) base t ty e i size ht hi _ n xs hown
  | some ad =>
    obtain ⟨v', w', h2, h3, h4, _, h5⟩ := run_append_own_at (P := P) w base t ty e i z size bytes ht hi hz hsize hby hzs hsz v n xs hown ad m c news hl (fun j u hj => by
      rcases hc with h | ⟨b, off, h, _, hc⟩
      · subst h; simp at hj
      · cases h; rw [addr_add]; exact hc j u hj) h1 h63 hbytes hbase
    obtain ⟨a', cap', rfl⟩ := own_form h3
    exact ⟨a', cap', w', h2, h3, h4, h5⟩

theorem wpList_append_rows {ops : Array Oper} {rest : List Oper} {o : Oper} {a : Act} {Q : Exit → Act → World → Prop} (hgd : o.guard = none) (s x : Operand) (t : TypeId)
    (ho : o.op = .call { callee := .builtin .append, args := #[s, x], argTypes := #[t, t] })
    (base : Nat) (e : TypeId) (i : TypeInfo) (z : Value) (size bytes : Nat) (ht : P.underlying t = some (.slice e)) (hi : P.info? e = some i) (hz : i.zero = some z)
    (hsize : i.size = size) (hby : i.bytes = bytes) (hzs : z.cells.size = size) (hsz : 0 < size)
    (v : Value) (n : Nat) (xs : List Value) (hs : a.eval s = v) (hown : w.ownsRow base e size v n xs)
    (ad : Option Addr) (m c B : Nat) (news : List Value) (hx : a.eval x = .slice ad m c) (hnone : ad = none → c = 0) (hl : news.length = m * size) (hc : Cells B w ad news) (h1 : ∀ u ∈ news, u.oneCell' = true)
    (h63 : n + m ≤ maxLen) (hbytes : (n + m) * bytes ≤ 140737488355328) (hbase : base ≤ w.heap.size)
    (h : ∀ a' cap' w', w'.ownsRow base e size (.slice a' (n + m) cap') (n + m) (xs ++ news) → w.grownBy w' v.ownBlock → ((Value.slice a' (n + m) cap').ownBlock = v.ownBlock ∨ (Value.slice a' (n + m) cap').ownBlock = some w.heap.size) →
      wpList P ops Q rest (a.put o.dst (.slice a' (n + m) cap')) w') : wpList P ops Q (o :: rest) a w := by
  refine wpList_plain hgd fun K hK => ?_
  obtain ⟨a', cap', w', hr, h2, h3, h4⟩ := run_append_rows (P := P) (w := w) t o.type base e i z size bytes ht hi hz hsize hby hzs hsz v n xs hown ad m c B news hnone hl hc h1 h63 hbytes hbase
  unfold Oper.wp execOp
  simp only [ho, resolve, invoke, builtin, Sem.run_bind, Sem.run_pure, Result.andThen_ok, List.map_toArray, List.map_cons, List.map_nil, hs, hx, hr]
  exact hK _ _ (h a' cap' w' h2 h3 h4)

theorem step_append_rows {ops : Array Oper} {o : Oper} {a : Act} {K : Act → World → Prop} {Q : Exit → Act → World → Prop} {E : Prop} (hgd : o.guard = none) (s x : Operand) (t : TypeId)
    (ho : o.op = .call { callee := .builtin .append, args := #[s, x], argTypes := #[t, t] })
    (base : Nat) (e : TypeId) (i : TypeInfo) (z : Value) (size bytes : Nat) (ht : P.underlying t = some (.slice e)) (hi : P.info? e = some i) (hz : i.zero = some z)
    (hsize : i.size = size) (hby : i.bytes = bytes) (hzs : z.cells.size = size) (hsz : 0 < size)
    (v : Value) (n : Nat) (xs : List Value) (hs : a.eval s = v) (hown : w.ownsRow base e size v n xs)
    (ad : Option Addr) (m c B : Nat) (news : List Value) (hx : a.eval x = .slice ad m c) (hnone : ad = none → c = 0) (hl : news.length = m * size) (hc : Cells B w ad news) (h1 : ∀ u ∈ news, u.oneCell' = true)
    (h63 : n + m ≤ maxLen) (hbytes : (n + m) * bytes ≤ 140737488355328) (hbase : base ≤ w.heap.size)
    (h : ∀ a' cap' w', w'.ownsRow base e size (.slice a' (n + m) cap') (n + m) (xs ++ news) → w.grownBy w' v.ownBlock → ((Value.slice a' (n + m) cap').ownBlock = v.ownBlock ∨ (Value.slice a' (n + m) cap').ownBlock = some w.heap.size) →
      K (a.put o.dst (.slice a' (n + m) cap')) w') : if Region.wanted o (yielded ops a.tmps) = true then Oper.wp P o a w K Q else E := by
  have hw : Region.wanted o (yielded ops a.tmps) = true := by simp [Region.wanted, hgd]
  rw [if_pos hw]
  obtain ⟨a', cap', w', hr, h2, h3, h4⟩ := run_append_rows (P := P) (w := w) t o.type base e i z size bytes ht hi hz hsize hby hzs hsz v n xs hown ad m c B news hnone hl hc h1 h63 hbytes hbase
  unfold Oper.wp execOp
  simp only [ho, resolve, invoke, builtin, Sem.run_bind, Sem.run_pure, Result.andThen_ok, List.map_toArray, List.map_cons, List.map_nil, hs, hx, hr]
  exact h a' cap' w' h2 h3 h4
end
end Go.Proofs.Ytoakloicjlfaaaa

/- What lay in texts of value.Map. Conditions: none. -/
namespace Go.Proofs.Ytoakloicjlfaaaa
open Go.RowKit
set_option linter.unusedSimpArgs false
set_option linter.unusedVariables false

def zeroC : List Value := [.int .i64 0, .bool false, .int .i64 0, .string ⟨#[]⟩, .slice none 0 0, .slice none 0 0]
/-- Six cells of a block written one behind the other: each reads as it was written. -/
theorem six_cells {w : World} {g : Nat} {a0 a1 a2 a3 a4 a5 : Value} {t : TypeId} (h : Block w g [a0, a1, a2, a3, a4, a5] t) (v0 v1 v2 v3 v4 v5 : Value) :
    (w.setCell ⟨g, 0, none⟩ v0).cell? ⟨g, 0, none⟩ = some v0 ∧ ((w.setCell ⟨g, 0, none⟩ v0).setCell ⟨g, 1, none⟩ v1).cell? ⟨g, 1, none⟩ = some v1 ∧ (((w.setCell ⟨g, 0, none⟩ v0).setCell ⟨g, 1, none⟩ v1).setCell ⟨g, 2, none⟩ v2).cell? ⟨g, 2, none⟩ = some v2 ∧
    ((((w.setCell ⟨g, 0, none⟩ v0).setCell ⟨g, 1, none⟩ v1).setCell ⟨g, 2, none⟩ v2).setCell ⟨g, 3, none⟩ v3).cell? ⟨g, 3, none⟩ = some v3 ∧ (((((w.setCell ⟨g, 0, none⟩ v0).setCell ⟨g, 1, none⟩ v1).setCell ⟨g, 2, none⟩ v2).setCell ⟨g, 3, none⟩ v3).setCell ⟨g, 4, none⟩ v4).cell? ⟨g, 4, none⟩ = some v4 ∧
    ((((((w.setCell ⟨g, 0, none⟩ v0).setCell ⟨g, 1, none⟩ v1).setCell ⟨g, 2, none⟩ v2).setCell ⟨g, 3, none⟩ v3).setCell ⟨g, 4, none⟩ v4).setCell ⟨g, 5, none⟩ v5).cell? ⟨g, 5, none⟩ = some v5 := by
  have h0 := h.set 0 v0
  have h1 := h0.set 1 v1
  have h2 := h1.set 2 v2
  have h3 := h2.set 3 v3
  have h4 := h3.set 4 v4
  have h5 := h4.set 5 v5
  exact ⟨h0.cell rfl, h1.cell rfl, h2.cell rfl, h3.cell rfl, h4.cell rfl, h5.cell rfl⟩
end Go.Proofs.Ytoakloicjlfaaaa

/- A region that draws its order, whose callees make memory and change nothing that was there: walked once, in the order of the text. Conditions: none. -/
namespace Go.Proofs.Ytoakloicjlfaaaa
open Go.RowKit

/-- The worlds that are as w below block B. -/
def Ext (B : Nat) (w : World) : Type := { w' : World // Below B w w' }
instance Ext.ne {B : Nat} {w : World} : Nonempty (Ext B w) := ⟨⟨w, Below.refl _ _⟩⟩
def Ext.w {B : Nat} {w : World} (u : Ext B w) : World := u.1
theorem Ext.below {B : Nat} {w : World} (u : Ext B w) : Below B w u.w := u.2
theorem Ext.cell {B : Nat} {w : World} (u : Ext B w) {a : Addr} {v : Value} (ha : a.block < B) (h : w.cell? a = some v) : u.w.cell? a = some v := by rw [u.below.cell ha]; exact h
theorem ext_call {P : Program} {B : Nat} {w : World} {f : FuncId} {args : Array Value} {v : Value} (u : Ext B w) (hB : B ≤ w.heap.size) (h : Calls P f args u.w fun e w' => e = .returned v ∧ Below u.w.heap.size u.w w') :
    Calls P f args u.w fun e w'' => e = .returned v ∧ ∃ u' : Ext B w, w'' = u'.w :=
  h.mono fun _ w'' ⟨he, hb⟩ => ⟨he, ⟨w'', u.below.trans (hb.mono (Nat.le_trans hB u.below.size))⟩, rfl⟩
theorem wp_region_ext {P : Program} {id : Nat} {Q : Exit → Act → World → Prop} {a : Act} {w : World} {l : List Oper} (B : Nat) (hm : P.follows .mixedOrders = true) (hB : Region.lexB .any l.toArray = true)
    (h : wpQuiet P l.toArray (fun w' => ∃ u : Ext B w, w' = u.w) (fun a' => ∀ w', (∃ u : Ext B w, w' = u.w) → Q .normal a' w') l a) : (Code.region id l.toArray true).wp P Q a w :=
  wp_region_quiet (C := fun w' => ∃ u : Ext B w, w' = u.w) hm hB ⟨⟨w.drew, (Below.refl _ _).drew⟩, rfl⟩ (by simpa using h)
end Go.Proofs.Ytoakloicjlfaaaa

/- Worlds that are as one world below a block: all through a law's walk. Conditions: none. -/
namespace Go.Proofs.Ytoakloicjlfaaaa
open Go.RowKit
set_option linter.unusedVariables false

theorem wp_region_at {P : Program} {id : Nat} {Q : Exit → Act → World → Prop} {a : Act} {B : Nat} {w : World} (u : Ext B w) {l : List Oper} (hm : P.follows .mixedOrders = true) (hB : Region.lexB .any l.toArray = true)
    (h : wpQuiet P l.toArray (fun w' => ∃ u : Ext B w, w' = u.w) (fun a' => ∀ w', (∃ u : Ext B w, w' = u.w) → Q .normal a' w') l a) : (Code.region id l.toArray true).wp P Q a u.w :=
  wp_region_quiet (C := fun w' => ∃ u : Ext B w, w' = u.w) hm hB ⟨⟨u.w.drew, u.below.drew⟩, rfl⟩ (by simpa using h)
theorem Ext.start (B : Nat) (w : World) : ∃ u : Ext B w, w = u.w := ⟨⟨w, Below.refl _ _⟩, rfl⟩
theorem partsV_le (t : Vt) : partsV t ≤ wtV t := by
  refine t.down (p := fun t => partsV t ≤ wtV t) fun k b i s l ks ih => ?_
  have h : ∀ l : List Vt, (∀ (j : Nat) t, l[j]? = some t → partsV t ≤ wtV t) → partsVs l ≤ wtVs l := by
    intro l
    induction l with
    | nil => intro _; simp [partsVs, wtVs]
    | cons t ts ih2 =>
      intro h
      have h1 := h 0 t rfl
      have h2 := ih2 (fun j u hu => h (j + 1) u (by simpa using hu))
      simp only [partsVs, wtVs]
      omega
  have := h l ih
  simp only [partsV, wtV]
  omega
end Go.Proofs.Ytoakloicjlfaaaa

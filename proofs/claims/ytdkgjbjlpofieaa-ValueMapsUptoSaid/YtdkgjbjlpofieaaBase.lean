/- Small lemmas on worlds, rows of cells and lists, used by the walks of this seat. Conditions: none. -/
import Derived.WalkKit
import Derived.ProofKit
import Derived.OpenShut
import Derived.WalkLawsBesides
import Derived.WalkSpells
import Derived.WalkSmall
import Derived.Lib.Hide
import Derived.Laws.AppendOwnNone
namespace Go.Proofs.Ytdkgjbjlpofieaa
open Go.RowKit

theorem below_step {B : Nat} {a b c : World} (h : Below B a b) (hB : B = a.heap.size) (k : Below b.heap.size b c) : Below B a c := h.trans (k.mono (by rw [hB]; exact h.size))

theorem Calls.below {P : Program} {f : FuncId} {args : Array Value} {w W : World} {v : Value} (h : Calls P f args w fun e w' => e = .returned v ∧ Below w.heap.size w w') (hb : Below W.heap.size W w) :
    Calls P f args w fun e w' => e = .returned v ∧ Below W.heap.size W w' := h.mono fun _ _ ⟨he, hk⟩ => ⟨he, below_step hb rfl hk⟩

theorem addr_add (b off i : Nat) : (⟨b, off, none⟩ : Addr).add i = ⟨b, off + i, none⟩ := by
  by_cases h : i = 0 <;> simp [Addr.add, h]

/-- The cells from an address on hold these values; the block lies below B. -/
def Cells (B : Nat) (w : World) (a : Option Addr) (vs : List Value) : Prop :=
  vs = [] ∨ ∃ b off, a = some ⟨b, off, none⟩ ∧ b < B ∧ ∀ (i : Nat) v, vs[i]? = some v → w.cell? ⟨b, off + i, none⟩ = some v

theorem Cells.nil {B : Nat} {w : World} {a : Option Addr} : Cells B w a [] := .inl rfl

theorem Cells.below {B B' : Nat} {w w' : World} {a : Option Addr} {vs : List Value} (h : Cells B w a vs) (hb : Below B' w w') (hB : B ≤ B') : Cells B w' a vs := by
  rcases h with h | ⟨b, off, h1, h2, h3⟩
  · exact .inl h
  · exact .inr ⟨b, off, h1, h2, fun i v hi => by rw [hb.cell (by show b < B'; omega)]; exact h3 i v hi⟩

theorem Cells.mono {B B' : Nat} {w : World} {a : Option Addr} {vs : List Value} (h : Cells B w a vs) (hB : B ≤ B') : Cells B' w a vs := by
  rcases h with h | ⟨b, off, h1, h2, h3⟩
  · exact .inl h
  · exact .inr ⟨b, off, h1, by omega, h3⟩

/-- A row of one-cell values that the call owns reads as cells. -/
theorem Cells.of_own {base : Nat} {w : World} {e : TypeId} {v : Value} {n : Nat} {xs : List Value} (h : w.ownsRow base e 1 v n xs) :
    ∃ a cap, v = .slice a n cap ∧ Cells w.heap.size w a xs := by
  obtain ⟨hl, h1⟩ := h
  rcases h1 with ⟨rfl, rfl⟩ | ⟨g, cap, cur, rfl, hg, hh, hn, hm, hs, ht⟩
  · exact ⟨none, 0, rfl, .inl (by simpa using hl)⟩
  · refine ⟨_, _, rfl, .inr ⟨g, 0, rfl, ?_, fun i v hi => ?_⟩⟩
    · exact (Array.getElem?_eq_some_iff.1 hh).1
    · have := World.ownsRow.cells (w := w) (base := base) (e := e) (size := 1) (v := .slice (some ⟨g, 0, none⟩) n cap) ⟨hl, .inr ⟨g, cap, cur, rfl, hg, hh, hn, hm, hs, ht⟩⟩ (g := g) rfl i v hi
      simpa [addr_add] using this

/-- append of a row of one-cell values, wherever it lies, to a row that the call owns. -/
theorem append_cells {P : Program} {w : World} {ops : Array Oper} {rest : List Oper} {o : Oper} {a : Act} {Q : Exit → Act → World → Prop} (hgd : o.guard = none) (s x : Operand) (t : TypeId)
    (ho : o.op = .call { callee := .builtin .append, args := #[s, x], argTypes := #[t, t] })
    (base : Nat) (e : TypeId) (i : TypeInfo) (z : Value) (bytes : Nat) (ht : P.underlying t = some (.slice e)) (hi : P.info? e = some i) (hz : i.zero = some z)
    (hsize : i.size = 1) (hby : i.bytes = bytes) (hzs : z.cells.size = 1)
    (v : Value) (n : Nat) (xs : List Value) (hs : a.eval s = v) (hown : w.ownsRow base e 1 v n xs)
    (ad : Option Addr) (m c B : Nat) (news : List Value) (hx : a.eval x = .slice ad m c) (hnone : ad = none → c = 0) (hl : news.length = m) (hc : Cells B w ad news) (h1 : ∀ u ∈ news, u.oneCell' = true)
    (h63 : n + m ≤ maxLen) (hbytes : (n + m) * bytes ≤ 140737488355328) (hbase : base ≤ w.heap.size)
    (h : ∀ v' w', w'.ownsRow base e 1 v' (n + m) (xs ++ news) → w.grownBy w' v.ownBlock → wpList P ops Q rest (a.put o.dst v') w') : wpList P ops Q (o :: rest) a w := by
  cases ad with
  | none =>
    have hn : news = [] := by
      rcases hc with h | ⟨b, off, h, _⟩
      · exact h
      · cases h
    subst hn
    obtain rfl : m = 0 := by simpa using hl.symm
    obtain rfl := hnone rfl
    exact wpList_append_own_none hgd s x t ho base e i 1 ht hi v n xs hs hown hx (h v w (by simpa using hown) ⟨rfl, rfl, rfl, Nat.le_refl _, fun _ _ _ => rfl⟩)
  | some ad =>
    refine wpList_append_own _ hgd s x t ho base e i z 1 bytes ht hi hz hsize hby hzs (by decide) v n xs hs hown ad m c news hx (by omega) (fun j u hj => ?_) h1 h63 hbytes hbase (fun v' w' h2 h3 _ => h v' w' h2 h3)
    rcases hc with h | ⟨b, off, h, _, hc⟩
    · subst h; simp at hj
    · cases h; rw [addr_add]; exact hc j u hj

/-- A block that may be written, all of whose cells are known. -/
def Block (w : World) (b : Nat) (cur : List Value) (t : TypeId) : Prop := w.heap[b]? = some (.cells cur.toArray t (0, 0))
theorem Block.lt {w : World} {b : Nat} {cur : List Value} {t : TypeId} (h : Block w b cur t) : b < w.heap.size := (Array.getElem?_eq_some_iff.1 h).1
theorem Block.cell {w : World} {b : Nat} {cur : List Value} {t : TypeId} (h : Block w b cur t) {i : Nat} {v : Value} (hi : cur[i]? = some v) : w.cell? ⟨b, i, none⟩ = some v := by
  unfold Block at h; simp [World.cell?, h, hi]
theorem Block.free {w : World} {b : Nat} {cur : List Value} {t : TypeId} (h : Block w b cur t) (i : Nat) : w.frozen? ⟨b, i, none⟩ = false := by
  unfold Block at h; simp [World.frozen?, h]
theorem Block.set {w : World} {b : Nat} {cur : List Value} {t : TypeId} (h : Block w b cur t) (i : Nat) (v : Value) : Block (w.setCell ⟨b, i, none⟩ v) b (cur.set i v) t := by
  have hlt := h.lt
  unfold Block at *
  have h' : w.heap[b] = .cells cur.toArray t (0, 0) := by simpa [Array.getElem?_eq_getElem hlt] using h
  show (w.heap.modify b _)[b]? = _
  rw [Array.getElem?_eq_getElem (by simpa using hlt), Array.getElem_modify_self, h']
  simp
theorem Block.of_heap {w w' : World} {b : Nat} {cur : List Value} {t : TypeId} (h : Block w b cur t) (hh : w'.heap[b]? = w.heap[b]?) : Block w' b cur t := hh.trans h
theorem Block.below {B : Nat} {w w' : World} {b : Nat} {cur : List Value} {t : TypeId} (h : Block w b cur t) (hb : Below B w w') (hB : b < B) : Block w' b cur t := h.of_heap (hb.block b hB)
theorem Block.set_other {w : World} {b : Nat} {cur : List Value} {t : TypeId} (h : Block w b cur t) {a : Addr} (ha : b ≠ a.block) (v : Value) : Block (w.setCell a v) b cur t := h.of_heap (Below.heap_setCell _ _ _ _ ha)
theorem Block.alloc {w : World} {b : Nat} {cur : List Value} {t : TypeId} (h : Block w b cur t) (o : Obj) : Block (w.alloc o) b cur t := h.of_heap (Below.heap_alloc _ _ _ h.lt)
theorem Block.new (w : World) (cur : List Value) (t : TypeId) : Block (w.alloc (.cells cur.toArray t)) w.heap.size cur t := by
  show (w.heap.push _)[w.heap.size]? = _
  simp
theorem Block.drew {w : World} {b : Nat} {cur : List Value} {t : TypeId} (h : Block w b cur t) : Block w.drew b cur t := h

/-- Of what was there in w nothing has turned but the blocks of own. -/
structure Kept (own : List Nat) (w w' : World) : Prop where
  os : w'.os = w.os
  tape : w'.tape = w.tape
  output : w'.output = w.output
  size : w.heap.size ≤ w'.heap.size
  block : ∀ k, k < w.heap.size → k ∉ own → w'.heap[k]? = w.heap[k]?
theorem Kept.refl (own : List Nat) (w : World) : Kept own w w := ⟨rfl, rfl, rfl, Nat.le_refl _, fun _ _ _ => rfl⟩
theorem Kept.trans {own own' : List Nat} {a b c : World} (h : Kept own a b) (k : Kept own' b c) (hs : ∀ x ∈ own', x ∈ own ∨ a.heap.size ≤ x) : Kept own a c :=
  ⟨k.os.trans h.os, k.tape.trans h.tape, k.output.trans h.output, Nat.le_trans h.size k.size, fun x hx hn => by
    rw [k.block x (Nat.lt_of_lt_of_le hx h.size) (fun hm => by rcases hs x hm with h1 | h1; exact hn h1; omega), h.block x hx hn]⟩
theorem Kept.below {own : List Nat} {B : Nat} {w w' : World} (h : Kept own w w') (hB : ∀ x ∈ own, B ≤ x) (hs : B ≤ w.heap.size) : Below B w w' :=
  ⟨h.os, h.tape, h.output, h.size, fun k hk => h.block k (by omega) (fun hm => by have := hB k hm; omega)⟩
theorem Kept.of_below {own : List Nat} {w w' : World} (h : Below w.heap.size w w') : Kept own w w' := ⟨h.os, h.tape, h.output, h.size, fun k hk _ => h.block k hk⟩
theorem Kept.setCell {own : List Nat} {a w : World} (h : Kept own a w) {p : Addr} (hp : p.block ∈ own ∨ a.heap.size ≤ p.block) (v : Value) : Kept own a (w.setCell p v) :=
  ⟨h.os, h.tape, h.output, by simpa [World.setCell] using h.size, fun k hk hn => by
    rw [Below.heap_setCell _ _ _ _ (fun e => by subst e; rcases hp with hp | hp; exact hn hp; omega), h.block k hk hn]⟩
theorem Kept.alloc {own : List Nat} {a w : World} (h : Kept own a w) (o : Obj) : Kept own a (w.alloc o) :=
  ⟨h.os, h.tape, h.output, by have := h.size; simp; omega, fun k hk hn => by rw [Below.heap_alloc _ _ _ (Nat.lt_of_lt_of_le hk h.size), h.block k hk hn]⟩
theorem Kept.drew {own : List Nat} {a w : World} (h : Kept own a w) : Kept own a w.drew := ⟨h.os, h.tape, h.output, h.size, h.block⟩
theorem Kept.drewN {own : List Nat} {a w : World} (h : Kept own a w) (n : Nat) : Kept own a (w.drewN n) := ⟨h.os, h.tape, h.output, h.size, h.block⟩
theorem Kept.grown {own : List Nat} {a w w' : World} {row : Option Nat} (h : Kept own a w) (hg : w.grownBy w' row) (hr : ∀ k, row = some k → k ∈ own ∨ a.heap.size ≤ k) : Kept own a w' :=
  ⟨hg.os.trans h.os, hg.tape.trans h.tape, hg.output.trans h.output, Nat.le_trans h.size hg.size, fun k hk hn => by
    rw [hg.block k (Nat.lt_of_lt_of_le hk h.size) (fun e => by rcases hr k e.symm with h1 | h1; exact hn h1; omega), h.block k hk hn]⟩

theorem take_succ_some {α : Type} {l : List α} {k : Nat} {x : α} (h : l[k]? = some x) : l.take (k + 1) = l.take k ++ [x] := by
  rw [List.take_add_one, h]; rfl
theorem foldl_take_succ {α β : Type} (f : β → α → β) (z : β) {l : List α} {k : Nat} {x : α} (h : l[k]? = some x) : (l.take (k + 1)).foldl f z = f ((l.take k).foldl f z) x := by
  rw [take_succ_some h, List.foldl_append]; rfl
theorem foldl_stop {α β : Type} (f : β → α → β) (s : β) (hs : ∀ y, f s y = s) : ∀ l : List α, l.foldl f s = s
  | [] => rfl
  | y :: l => by rw [List.foldl_cons, hs, foldl_stop f s hs l]
theorem foldl_take_stop {α β : Type} (f : β → α → β) (z s : β) (hs : ∀ y, f s y = s) {l : List α} {k : Nat} {x : α} (h : l[k]? = some x) (hx : f ((l.take k).foldl f z) x = s) : l.foldl f z = s := by
  have h1 : l = l.take (k + 1) ++ l.drop (k + 1) := (List.take_append_drop _ _).symm
  rw [h1, List.foldl_append, foldl_take_succ f z h, hx, foldl_stop f s hs]

/-- A slice of integers that came in, as the proof's frame opens it. -/
def IsRow (k : IntKind) (w : World) (a : Option Addr) (len cap : Nat) (zs : List Int) : Prop :=
  (a = none ∧ len = 0 ∧ cap = 0 ∧ zs = []) ∨
  ∃ x, a = some x ∧ len ≤ cap ∧ cap ≤ maxLen ∧ zs.length = cap ∧ (∀ i, i < zs.length → w.cell? (x.add i) = some (.int k (zs.getD i 0))) ∧ ∀ n ∈ zs, (Lit.int k n).wf = true

theorem IsRow.capz {k : IntKind} {w : World} {a : Option Addr} {len cap : Nat} {zs : List Int} (h : IsRow k w a len cap zs) : a = none → cap = 0 := by
  rcases h with ⟨_, _, h, _⟩ | ⟨x, h, _⟩
  · exact fun _ => h
  · intro h'; rw [h'] at h; cases h

theorem IsRow.len_le {k : IntKind} {w : World} {a : Option Addr} {len cap : Nat} {zs : List Int} (h : IsRow k w a len cap zs) : len ≤ cap := by
  rcases h with ⟨_, h, _, _⟩ | ⟨x, _, h, _⟩ <;> omega

theorem IsRow.cells {k : IntKind} {w : World} {a : Option Addr} {len cap : Nat} {zs : List Int} (h : IsRow k w a len cap zs) :
    ∃ ys : List Int, ys = zs.take len ∧ ys.length = len ∧ len ≤ maxLen ∧ Cells w.heap.size w a (ys.map (.int k)) := by
  rcases h with ⟨rfl, rfl, rfl, rfl⟩ | ⟨x, rfl, hl, hm, hz, hc, _⟩
  · exact ⟨[], rfl, rfl, Nat.zero_le _, .inl rfl⟩
  · refine ⟨_, rfl, by simp; omega, by omega, ?_⟩
    by_cases h0 : len = 0
    · subst h0; exact .inl (by simp)
    · obtain ⟨b, off, spot⟩ := x
      have h1 := hc 0 (by omega)
      have hspot : spot = none := by simpa [Addr.add] using World.cell?_spot h1
      subst hspot
      refine .inr ⟨b, off, rfl, by simpa [Addr.add] using World.block_lt_of_cell? w _ h1, fun i v hi => ?_⟩
      rw [List.getElem?_map] at hi
      obtain ⟨n, hn, rfl⟩ := Option.map_eq_some_iff.1 hi
      have hi2 : i < zs.length := by
        have := (List.getElem?_eq_some_iff.1 hn).1; simp at this; omega
      have hn' : zs[i]? = some n := by rw [List.getElem?_take] at hn; split at hn <;> simp_all
      have h2 := hc i hi2
      rw [List.getD_eq_getElem?_getD, hn', addr_add] at h2
      exact h2
end Go.Proofs.Ytdkgjbjlpofieaa

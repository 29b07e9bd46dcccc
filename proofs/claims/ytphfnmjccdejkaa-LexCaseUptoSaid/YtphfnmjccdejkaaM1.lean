/- The texts Base, S1, S2, S3, S4, S5, S6, S7, Shelf, S8, S9, S10, S11, S12, S13, S14, S15, S17, S19, L1, L3, L4, L5, L6, Ext, Cont, L7, L8, S18 of this seat, one behind the other. Conditions: each says its own. -/
import Derived.WalkKit
import Derived.ProofKit
import Derived.OpenShut
import Derived.WalkLawsBesides
import Derived.WalkSpells
import Derived.WalkSmall
import Derived.Lib.Hide
import Derived.Laws.AppendOwnNone
import Derived.Lib.RuneBytes
import Derived.Laws.RangeAny
import Derived.Lib.Strings
import Derived.Test.YtphfnmjccdejkaaProg
import Derived.Outline
import Derived.Laws.BytesArg
import Derived.Laws.IdiomStrings
import Derived.Deep.RegionLaw
import Derived.Laws.Concat
import Derived.Shelf.Strings.BuilderK
import Derived.Shelf.Strings.BuilderRune
import Derived.Shelf.Strings.Prefix
import Derived.Shelf.Strings.Search1
import Derived.Shelf.Strings.OnBuilder
import Derived.Shelf.Small.Strs
import Derived.BigCall
import Derived.BigQuiet
import Derived.Laws.Runes
import Derived.Lib.AppendStr
import Derived.Deep.AppendLies
import Derived.Lib.IndexMore
import Derived.Lib.IndexLaws
import Derived.Shelf.Strings.Search2
import Derived.Shelf.Strings.Search3
import Derived.Shelf.LaysM
import Derived.Shelf.Strings.Shaped

/- Small lemmas on worlds, rows of cells and lists, used by the walks of this seat. Conditions: none. -/
namespace Go.Proofs.Ytphfnmjccdejkaa
open Go.RowKit

theorem below_step {B : Nat} {a b c : World} (h : Below B a b) (hB : B = a.heap.size) (k : Below b.heap.size b c) : Below B a c := h.trans (k.mono (by rw [hB]; exact h.size))

theorem Calls.below {P : Program} {f : FuncId} {args : Array Value} {w W : World} {v : Value} (h : Calls P f args w fun e w' => e = .returned v ∧ Below w.heap.size w w') (hb : Below W.heap.size W w) :
    Calls P f args w fun e w' => e = .returned v ∧ Below W.heap.size W w' := h.mono fun _ _ ⟨he, hk⟩ => ⟨he, below_step hb rfl hk⟩

theorem addr_add (b off i : Nat) : (⟨b, off, none⟩ : Addr).add i = ⟨b, off + i, none⟩ := by
  by_cases h : i = 0 <;> simp [Addr.add, h]

/-- The cells from an address on hold these values; the block lies below B. -/
def Cells (B : Nat) (w : World) (a : Option Addr) (vs : List Value) : Prop :=
  vs = [] ∨ ∃ b off, a = some ⟨b, off, none⟩ ∧ b < B ∧ ∀ (i : Nat) v, vs[i]? = some v → w.cell? ⟨b, off + i, none⟩ = some v

theorem Cells.nil {B : Nat} {w : World} {a : Option Addr} : Cells B w a [] := .inl rfl

theorem Cells.below {B B' : Nat} {w w' : World} {a : Option Addr} {vs : List Value} (h : Cells B w a vs) (hb : Below B' w w') (hB : B ≤ B') : Cells B w' a vs := by
  rcases h with h | ⟨b, off, h1, h2, h3⟩
  · exact .inl h
  · exact .inr ⟨b, off, h1, h2, fun i v hi => by rw [hb.cell (by show b < B'; omega)]; exact h3 i v hi⟩

theorem Cells.mono {B B' : Nat} {w : World} {a : Option Addr} {vs : List Value} (h : Cells B w a vs) (hB : B ≤ B') : Cells B' w a vs := by
  rcases h with h | ⟨b, off, h1, h2, h3⟩
  · exact .inl h
  · exact .inr ⟨b, off, h1, by omega, h3⟩

/-- A row of one-cell values that the call owns reads as cells. -/
theorem Cells.of_own {base : Nat} {w : World} {e : TypeId} {v : Value} {n : Nat} {xs : List Value} (h : w.ownsRow base e 1 v n xs) :
    ∃ a cap, v = .slice a n cap ∧ Cells w.heap.size w a xs := by
  obtain ⟨hl, h1⟩ := h
  rcases h1 with ⟨rfl, rfl⟩ | ⟨g, cap, cur, rfl, hg, hh, hn, hm, hs, ht⟩
  · exact ⟨none, 0, rfl, .inl (by simpa using hl)⟩
  · refine ⟨_, _, rfl, .inr ⟨g, 0, rfl, ?_, fun i v hi => ?_⟩⟩
    · exact (Array.getElem?_eq_some_iff.1 hh).1
    · have := World.ownsRow.cells (w := w) (base := base) (e := e) (size := 1) (v := .slice (some ⟨g, 0, none⟩) n cap) ⟨hl, .inr ⟨g, cap, cur, rfl, hg, hh, hn, hm, hs, ht⟩⟩ (g := g) rfl i v hi
      simpa [addr_add] using this

/-- append of a row of one-cell values, wherever it lies, to a row that the call owns. -/
theorem append_cells {P : Program} {w : World} {ops : Array Oper} {rest : List Oper} {o : Oper} {a : Act} {Q : Exit → Act → World → Prop} (hgd : o.guard = none) (s x : Operand) (t : TypeId)
    (ho : o.op = .call { callee := .builtin .append, args := #[s, x], argTypes := #[t, t] })
    (base : Nat) (e : TypeId) (i : TypeInfo) (z : Value) (bytes : Nat) (ht : P.underlying t = some (.slice e)) (hi : P.info? e = some i) (hz : i.zero = some z)
    (hsize : i.size = 1) (hby : i.bytes = bytes) (hzs : z.cells.size = 1)
    (v : Value) (n : Nat) (xs : List Value) (hs : a.eval s = v) (hown : w.ownsRow base e 1 v n xs)
    (ad : Option Addr) (m c B : Nat) (news : List Value) (hx : a.eval x = .slice ad m c) (hnone : ad = none → c = 0) (hl : news.length = m) (hc : Cells B w ad news) (h1 : ∀ u ∈ news, u.oneCell' = true)
    (h63 : n + m ≤ maxLen) (hbytes : (n + m) * bytes ≤ 140737488355328) (hbase : base ≤ w.heap.size)
    (h : ∀ v' w', w'.ownsRow base e 1 v' (n + m) (xs ++ news) → w.grownBy w' v.ownBlock → wpList P ops Q rest (a.put o.dst v') w') : wpList P ops Q (o :: rest) a w := by
  cases ad with
  | none =>
    have hn : news = [] := by
      rcases hc with h | ⟨b, off, h, _⟩
      · exact h
      · cases h
    subst hn
    obtain rfl : m = 0 := by simpa using hl.symm
    obtain rfl := hnone rfl
    exact wpList_append_own_none hgd s x t ho base e i 1 ht hi v n xs hs hown hx (h v w (by simpa using hown) ⟨rfl, rfl, rfl, Nat.le_refl _, fun _ _ _ => rfl⟩)
  | some ad =>
    refine wpList_append_own _ hgd s x t ho base e i z 1 bytes ht hi hz hsize hby hzs (by decide) v n xs hs hown ad m c news hx (by omega) (fun j u hj => ?_) h1 h63 hbytes hbase (fun v' w' h2 h3 _ => h v' w' h2 h3)
    rcases hc with h | ⟨b, off, h, _, hc⟩
    · subst h; simp at hj
    · cases h; rw [addr_add]; exact hc j u hj

/-- A block that may be written, all of whose cells are known. -/
def Block (w : World) (b : Nat) (cur : List Value) (t : TypeId) : Prop := w.heap[b]? = some (.cells cur.toArray t (0, 0))
theorem Block.lt {w : World} {b : Nat} {cur : List Value} {t : TypeId} (h : Block w b cur t) : b < w.heap.size := (Array.getElem?_eq_some_iff.1 h).1
theorem Block.cell {w : World} {b : Nat} {cur : List Value} {t : TypeId} (h : Block w b cur t) {i : Nat} {v : Value} (hi : cur[i]? = some v) : w.cell? ⟨b, i, none⟩ = some v := by
  unfold Block at h; simp [World.cell?, h, hi]
theorem Block.free {w : World} {b : Nat} {cur : List Value} {t : TypeId} (h : Block w b cur t) (i : Nat) : w.frozen? ⟨b, i, none⟩ = false := by
  unfold Block at h; simp [World.frozen?, h]
theorem Block.set {w : World} {b : Nat} {cur : List Value} {t : TypeId} (h : Block w b cur t) (i : Nat) (v : Value) : Block (w.setCell ⟨b, i, none⟩ v) b (cur.set i v) t := by
  have hlt := h.lt
  unfold Block at *
  have h' : w.heap[b] = .cells cur.toArray t (0, 0) := by simpa [Array.getElem?_eq_getElem hlt] using h
  show (w.heap.modify b _)[b]? = _
  rw [Array.getElem?_eq_getElem (by simpa using hlt), Array.getElem_modify_self, h']
  simp
theorem Block.of_heap {w w' : World} {b : Nat} {cur : List Value} {t : TypeId} (h : Block w b cur t) (hh : w'.heap[b]? = w.heap[b]?) : Block w' b cur t := hh.trans h
theorem Block.below {B : Nat} {w w' : World} {b : Nat} {cur : List Value} {t : TypeId} (h : Block w b cur t) (hb : Below B w w') (hB : b < B) : Block w' b cur t := h.of_heap (hb.block b hB)
theorem Block.set_other {w : World} {b : Nat} {cur : List Value} {t : TypeId} (h : Block w b cur t) {a : Addr} (ha : b ≠ a.block) (v : Value) : Block (w.setCell a v) b cur t := h.of_heap (Below.heap_setCell _ _ _ _ ha)
theorem Block.alloc {w : World} {b : Nat} {cur : List Value} {t : TypeId} (h : Block w b cur t) (o : Obj) : Block (w.alloc o) b cur t := h.of_heap (Below.heap_alloc _ _ _ h.lt)
theorem Block.new (w : World) (cur : List Value) (t : TypeId) : Block (w.alloc (.cells cur.toArray t)) w.heap.size cur t := by
  show (w.heap.push _)[w.heap.size]? = _
  simp
theorem Block.drew {w : World} {b : Nat} {cur : List Value} {t : TypeId} (h : Block w b cur t) : Block w.drew b cur t := h

/-- Of what was there in w nothing has turned but the blocks of own. -/
structure Kept (own : List Nat) (w w' : World) : Prop where
  os : w'.os = w.os
  tape : w'.tape = w.tape
  output : w'.output = w.output
  size : w.heap.size ≤ w'.heap.size
  block : ∀ k, k < w.heap.size → k ∉ own → w'.heap[k]? = w.heap[k]?
theorem Kept.refl (own : List Nat) (w : World) : Kept own w w := ⟨rfl, rfl, rfl, Nat.le_refl _, fun _ _ _ => rfl⟩
theorem Kept.trans {own own' : List Nat} {a b c : World} (h : Kept own a b) (k : Kept own' b c) (hs : ∀ x ∈ own', x ∈ own ∨ a.heap.size ≤ x) : Kept own a c :=
  ⟨k.os.trans h.os, k.tape.trans h.tape, k.output.trans h.output, Nat.le_trans h.size k.size, fun x hx hn => by
    rw [k.block x (Nat.lt_of_lt_of_le hx h.size) (fun hm => by rcases hs x hm with h1 | h1; exact hn h1; omega), h.block x hx hn]⟩
theorem Kept.below {own : List Nat} {B : Nat} {w w' : World} (h : Kept own w w') (hB : ∀ x ∈ own, B ≤ x) (hs : B ≤ w.heap.size) : Below B w w' :=
  ⟨h.os, h.tape, h.output, h.size, fun k hk => h.block k (by omega) (fun hm => by have := hB k hm; omega)⟩
theorem Kept.of_below {own : List Nat} {w w' : World} (h : Below w.heap.size w w') : Kept own w w' := ⟨h.os, h.tape, h.output, h.size, fun k hk _ => h.block k hk⟩
theorem Kept.setCell {own : List Nat} {a w : World} (h : Kept own a w) {p : Addr} (hp : p.block ∈ own ∨ a.heap.size ≤ p.block) (v : Value) : Kept own a (w.setCell p v) :=
  ⟨h.os, h.tape, h.output, by simpa [World.setCell] using h.size, fun k hk hn => by
    rw [Below.heap_setCell _ _ _ _ (fun e => by subst e; rcases hp with hp | hp; exact hn hp; omega), h.block k hk hn]⟩
theorem Kept.alloc {own : List Nat} {a w : World} (h : Kept own a w) (o : Obj) : Kept own a (w.alloc o) :=
  ⟨h.os, h.tape, h.output, by have := h.size; simp; omega, fun k hk hn => by rw [Below.heap_alloc _ _ _ (Nat.lt_of_lt_of_le hk h.size), h.block k hk hn]⟩
theorem Kept.drew {own : List Nat} {a w : World} (h : Kept own a w) : Kept own a w.drew := ⟨h.os, h.tape, h.output, h.size, h.block⟩
theorem Kept.drewN {own : List Nat} {a w : World} (h : Kept own a w) (n : Nat) : Kept own a (w.drewN n) := ⟨h.os, h.tape, h.output, h.size, h.block⟩
theorem Kept.grown {own : List Nat} {a w w' : World} {row : Option Nat} (h : Kept own a w) (hg : w.grownBy w' row) (hr : ∀ k, row = some k → k ∈ own ∨ a.heap.size ≤ k) : Kept own a w' :=
  ⟨hg.os.trans h.os, hg.tape.trans h.tape, hg.output.trans h.output, Nat.le_trans h.size hg.size, fun k hk hn => by
    rw [hg.block k (Nat.lt_of_lt_of_le hk h.size) (fun e => by rcases hr k e.symm with h1 | h1; exact hn h1; omega), h.block k hk hn]⟩

theorem take_succ_some {α : Type} {l : List α} {k : Nat} {x : α} (h : l[k]? = some x) : l.take (k + 1) = l.take k ++ [x] := by
  rw [List.take_add_one, h]; rfl
theorem foldl_take_succ {α β : Type} (f : β → α → β) (z : β) {l : List α} {k : Nat} {x : α} (h : l[k]? = some x) : (l.take (k + 1)).foldl f z = f ((l.take k).foldl f z) x := by
  rw [take_succ_some h, List.foldl_append]; rfl
theorem foldl_stop {α β : Type} (f : β → α → β) (s : β) (hs : ∀ y, f s y = s) : ∀ l : List α, l.foldl f s = s
  | [] => rfl
  | y :: l => by rw [List.foldl_cons, hs, foldl_stop f s hs l]
theorem foldl_take_stop {α β : Type} (f : β → α → β) (z s : β) (hs : ∀ y, f s y = s) {l : List α} {k : Nat} {x : α} (h : l[k]? = some x) (hx : f ((l.take k).foldl f z) x = s) : l.foldl f z = s := by
  have h1 : l = l.take (k + 1) ++ l.drop (k + 1) := (List.take_append_drop _ _).symm
  rw [h1, List.foldl_append, foldl_take_succ f z h, hx, foldl_stop f s hs]

/-- A slice of integers that came in, as the proof's frame opens it. -/
def IsRow (k : IntKind) (w : World) (a : Option Addr) (len cap : Nat) (zs : List Int) : Prop :=
  (a = none ∧ len = 0 ∧ cap = 0 ∧ zs = []) ∨
  ∃ x, a = some x ∧ len ≤ cap ∧ cap ≤ maxLen ∧ zs.length = cap ∧ (∀ i, i < zs.length → w.cell? (x.add i) = some (.int k (zs.getD i 0))) ∧ ∀ n ∈ zs, (Lit.int k n).wf = true

theorem IsRow.capz {k : IntKind} {w : World} {a : Option Addr} {len cap : Nat} {zs : List Int} (h : IsRow k w a len cap zs) : a = none → cap = 0 := by
  rcases h with ⟨_, _, h, _⟩ | ⟨x, h, _⟩
  · exact fun _ => h
  · intro h'; rw [h'] at h; cases h

theorem IsRow.len_le {k : IntKind} {w : World} {a : Option Addr} {len cap : Nat} {zs : List Int} (h : IsRow k w a len cap zs) : len ≤ cap := by
  rcases h with ⟨_, h, _, _⟩ | ⟨x, _, h, _⟩ <;> omega

theorem IsRow.cells {k : IntKind} {w : World} {a : Option Addr} {len cap : Nat} {zs : List Int} (h : IsRow k w a len cap zs) :
    ∃ ys : List Int, ys = zs.take len ∧ ys.length = len ∧ len ≤ maxLen ∧ Cells w.heap.size w a (ys.map (.int k)) := by
  rcases h with ⟨rfl, rfl, rfl, rfl⟩ | ⟨x, rfl, hl, hm, hz, hc, _⟩
  · exact ⟨[], rfl, rfl, Nat.zero_le _, .inl rfl⟩
  · refine ⟨_, rfl, by simp; omega, by omega, ?_⟩
    by_cases h0 : len = 0
    · subst h0; exact .inl (by simp)
    · obtain ⟨b, off, spot⟩ := x
      have h1 := hc 0 (by omega)
      have hspot : spot = none := by simpa [Addr.add] using World.cell?_spot h1
      subst hspot
      refine .inr ⟨b, off, rfl, by simpa [Addr.add] using World.block_lt_of_cell? w _ h1, fun i v hi => ?_⟩
      rw [List.getElem?_map] at hi
      obtain ⟨n, hn, rfl⟩ := Option.map_eq_some_iff.1 hi
      have hi2 : i < zs.length := by
        have := (List.getElem?_eq_some_iff.1 hn).1; simp at this; omega
      have hn' : zs[i]? = some n := by rw [List.getElem?_take] at hn; split at hn <;> simp_all
      have h2 := hc i hi2
      rw [List.getD_eq_getElem?_getD, hn', addr_add] at h2
      exact h2
end Go.Proofs.Ytphfnmjccdejkaa

/- Layer 5: signs of Unicode in plain lists of bytes, and what the model's decoding says of them. Conditions: none. -/
namespace Go.Proofs.Ytphfnmjccdejkaa
open Go.RowKit

/-- Byte number k of a list, as a number; 0 behind its end. -/
def nb (l : List UInt8) (k : Nat) : Nat := ((l[k]?).map UInt8.toNat).getD 0
theorem nb_lt (l : List UInt8) (k : Nat) : nb l k < 256 := by
  unfold nb
  cases l[k]? with
  | none => simp
  | some c => simpa using c.toNat_lt
/-- A byte that goes on with a sign. -/
def tl (l : List UInt8) (k : Nat) : Bool := decide (k < l.length) && decide (128 ≤ nb l k) && decide (nb l k < 192)
/-- How many bytes the sign at a list's head has; 0: there is none. -/
def sg (l : List UInt8) : Nat :=
  if l.length = 0 then 0 else if nb l 0 < 128 then 1 else if nb l 0 < 194 ∨ 244 < nb l 0 ∨ tl l 1 = false then 0 else if nb l 0 < 224 then 2
  else if tl l 2 = false ∨ (nb l 0 = 224 ∧ nb l 1 < 160) ∨ (nb l 0 = 237 ∧ 160 ≤ nb l 1) then 0 else if nb l 0 < 240 then 3
  else if tl l 3 = false ∨ (nb l 0 = 240 ∧ nb l 1 < 144) ∨ (nb l 0 = 244 ∧ 144 ≤ nb l 1) then 0 else 4
/-- The rune of the sign at the head. -/
def rv (l : List UInt8) : Nat :=
  if sg l = 1 then nb l 0 else if sg l = 2 then (nb l 0 - 192) * 64 + (nb l 1 - 128) else if sg l = 3 then (nb l 0 - 224) * 4096 + (nb l 1 - 128) * 64 + (nb l 2 - 128)
  else if sg l = 4 then (nb l 0 - 240) * 262144 + (nb l 1 - 128) * 4096 + (nb l 2 - 128) * 64 + (nb l 3 - 128) else 65533

/-- The model's decoding, with its bytes as numbers. -/
def decU (n b0 b1 b2 b3 : Nat) : Nat × Nat :=
  if b0 < 128 then (b0, 1)
  else if b0 / 32 = 6 ∧ 1 < n ∧ b1 / 64 = 2 then (if 128 ≤ b0 % 32 * 64 + b1 % 64 then (b0 % 32 * 64 + b1 % 64, 2) else (65533, 1))
  else if b0 / 16 = 14 ∧ (1 < n ∧ b1 / 64 = 2) ∧ 2 < n ∧ b2 / 64 = 2 then
    (if 2048 ≤ b0 % 16 * 4096 + b1 % 64 * 64 + b2 % 64 ∧ (b0 % 16 * 4096 + b1 % 64 * 64 + b2 % 64 < 55296 ∨ (57344 ≤ b0 % 16 * 4096 + b1 % 64 * 64 + b2 % 64 ∧ b0 % 16 * 4096 + b1 % 64 * 64 + b2 % 64 ≤ 1114111)) then (b0 % 16 * 4096 + b1 % 64 * 64 + b2 % 64, 3) else (65533, 1))
  else if b0 / 8 = 30 ∧ (1 < n ∧ b1 / 64 = 2) ∧ (2 < n ∧ b2 / 64 = 2) ∧ 3 < n ∧ b3 / 64 = 2 then
    (if 65536 ≤ b0 % 8 * 262144 + b1 % 64 * 4096 + b2 % 64 * 64 + b3 % 64 ∧ (b0 % 8 * 262144 + b1 % 64 * 4096 + b2 % 64 * 64 + b3 % 64 < 55296 ∨ (57344 ≤ b0 % 8 * 262144 + b1 % 64 * 4096 + b2 % 64 * 64 + b3 % 64 ∧ b0 % 8 * 262144 + b1 % 64 * 4096 + b2 % 64 * 64 + b3 % 64 ≤ 1114111))
      then (b0 % 8 * 262144 + b1 % 64 * 4096 + b2 % 64 * 64 + b3 % 64, 4) else (65533, 1))
  else (65533, 1)

theorem get_nb (s : ByteArray) (pos k : Nat) (h : pos + k < s.size) : (s.get! (pos + k)).toNat = nb (s.data.toList.drop pos) k := by
  have h1 := get_at s (pos + k) h
  rw [Nat.add_zero] at h1
  rw [h1]
  unfold nb
  rw [List.getElem?_drop, List.getElem?_eq_getElem (by simpa using h)]
  rfl
theorem decode_eq (s : ByteArray) (pos : Nat) (h : pos < s.size) : Utf8.decode s pos = decU (s.size - pos) (nb (s.data.toList.drop pos) 0) (nb (s.data.toList.drop pos) 1) (nb (s.data.toList.drop pos) 2) (nb (s.data.toList.drop pos) 3) := by
  have g0 := get_nb s pos 0 (by omega)
  have c1 : ∀ k, (decide (pos + k < s.size) && ((s.get! (pos + k)).toNat / 64 == 2)) = true ↔ (k < s.size - pos ∧ nb (s.data.toList.drop pos) k / 64 = 2) := fun k => by
    by_cases hk : pos + k < s.size
    · rw [get_nb s pos k hk]; simp [hk]; omega
    · simp [hk]; omega
  simp only [Utf8.decode, Utf8.runeError, g0, Bool.and_eq_true, c1]
  have hv : ∀ c : Nat, (Utf8.valid (c : Int) = true) = (c < 55296 ∨ (57344 ≤ c ∧ c ≤ 1114111)) := fun c => by
    apply propext
    simp [Utf8.valid]
    omega
  simp only [beq_iff_eq, decide_eq_true_eq, hv, ge_iff_le]
  unfold decU
  by_cases a0 : nb (s.data.toList.drop pos) 0 < 128
  · rw [if_pos a0, if_pos a0]
  rw [if_neg a0, if_neg a0]
  by_cases a1 : nb (s.data.toList.drop pos) 0 / 32 = 6 ∧ 1 < s.size - pos ∧ nb (s.data.toList.drop pos) 1 / 64 = 2
  · rw [if_pos a1, if_pos a1, get_nb s pos 1 (by omega)]
  rw [if_neg a1, if_neg a1]
  by_cases a2 : nb (s.data.toList.drop pos) 0 / 16 = 14 ∧ (1 < s.size - pos ∧ nb (s.data.toList.drop pos) 1 / 64 = 2) ∧ 2 < s.size - pos ∧ nb (s.data.toList.drop pos) 2 / 64 = 2
  · rw [if_pos (by omega), if_pos a2, get_nb s pos 1 (by omega), get_nb s pos 2 (by omega)]
  rw [if_neg (by omega), if_neg a2]
  by_cases a3 : nb (s.data.toList.drop pos) 0 / 8 = 30 ∧ (1 < s.size - pos ∧ nb (s.data.toList.drop pos) 1 / 64 = 2) ∧ (2 < s.size - pos ∧ nb (s.data.toList.drop pos) 2 / 64 = 2) ∧ 3 < s.size - pos ∧ nb (s.data.toList.drop pos) 3 / 64 = 2
  · rw [if_pos (by omega), if_pos a3, get_nb s pos 1 (by omega), get_nb s pos 2 (by omega), get_nb s pos 3 (by omega)]
  rw [if_neg (by omega), if_neg a3]

theorem tl_true {l : List UInt8} {k : Nat} : tl l k = true ↔ k < l.length ∧ 128 ≤ nb l k ∧ nb l k < 192 := by simp [tl, and_assoc]
theorem tl_false {l : List UInt8} {k : Nat} : tl l k = false ↔ ¬ (k < l.length ∧ 128 ≤ nb l k ∧ nb l k < 192) := by
  rw [← tl_true]; simp

set_option maxHeartbeats 2000000 in
/-- What the decoding says, in these words. -/
theorem decU_spec {l : List UInt8} (h : l.length ≠ 0) : decU l.length (nb l 0) (nb l 1) (nb l 2) (nb l 3) = (rv l, if sg l = 0 then 1 else sg l) := by
  have h0 := nb_lt l 0
  have h1 := nb_lt l 1
  have h2 := nb_lt l 2
  have h3 := nb_lt l 3
  have hs : (sg l = 0 ∧ ¬ nb l 0 < 128 ∧ (nb l 0 < 194 ∨ 244 < nb l 0 ∨ ¬ (1 < l.length ∧ 128 ≤ nb l 1 ∧ nb l 1 < 192) ∨ (224 ≤ nb l 0 ∧ (¬ (2 < l.length ∧ 128 ≤ nb l 2 ∧ nb l 2 < 192) ∨ (nb l 0 = 224 ∧ nb l 1 < 160) ∨ (nb l 0 = 237 ∧ 160 ≤ nb l 1))) ∨ (240 ≤ nb l 0 ∧ (¬ (3 < l.length ∧ 128 ≤ nb l 3 ∧ nb l 3 < 192) ∨ (nb l 0 = 240 ∧ nb l 1 < 144) ∨ (nb l 0 = 244 ∧ 144 ≤ nb l 1))))) ∨
      (sg l = 1 ∧ nb l 0 < 128) ∨ (sg l = 2 ∧ 194 ≤ nb l 0 ∧ nb l 0 < 224 ∧ (1 < l.length ∧ 128 ≤ nb l 1 ∧ nb l 1 < 192)) ∨
      (sg l = 3 ∧ 224 ≤ nb l 0 ∧ nb l 0 < 240 ∧ (1 < l.length ∧ 128 ≤ nb l 1 ∧ nb l 1 < 192) ∧ (2 < l.length ∧ 128 ≤ nb l 2 ∧ nb l 2 < 192) ∧ ¬ (nb l 0 = 224 ∧ nb l 1 < 160) ∧ ¬ (nb l 0 = 237 ∧ 160 ≤ nb l 1)) ∨
      (sg l = 4 ∧ 240 ≤ nb l 0 ∧ nb l 0 ≤ 244 ∧ (1 < l.length ∧ 128 ≤ nb l 1 ∧ nb l 1 < 192) ∧ (2 < l.length ∧ 128 ≤ nb l 2 ∧ nb l 2 < 192) ∧ (3 < l.length ∧ 128 ≤ nb l 3 ∧ nb l 3 < 192) ∧ ¬ (nb l 0 = 240 ∧ nb l 1 < 144) ∧ ¬ (nb l 0 = 244 ∧ 144 ≤ nb l 1)) := by
    unfold sg
    simp only [tl_false]
    rw [if_neg h]
    generalize nb l 0 = b0 at *
    generalize nb l 1 = b1 at *
    generalize nb l 2 = b2 at *
    generalize nb l 3 = b3 at *
    generalize l.length = n at *
    clear h
    by_cases g0 : b0 < 128
    · rw [if_pos g0]; exact .inr (.inl ⟨rfl, g0⟩)
    rw [if_neg g0]
    by_cases g1 : b0 < 194 ∨ 244 < b0 ∨ ¬ (1 < n ∧ 128 ≤ b1 ∧ b1 < 192)
    · rw [if_pos g1]
      refine .inl ⟨rfl, g0, ?_⟩
      rcases g1 with g1 | g1 | g1
      · exact .inl g1
      · exact .inr (.inl g1)
      · exact .inr (.inr (.inl g1))
    rw [if_neg g1]
    have k1 : 194 ≤ b0 ∧ b0 ≤ 244 ∧ (1 < n ∧ 128 ≤ b1 ∧ b1 < 192) := ⟨by omega, by omega, Classical.byContradiction fun h => g1 (.inr (.inr h))⟩
    clear g1
    by_cases g2 : b0 < 224
    · rw [if_pos g2]; exact .inr (.inr (.inl ⟨rfl, k1.1, g2, k1.2.2⟩))
    rw [if_neg g2]
    by_cases g3 : ¬ (2 < n ∧ 128 ≤ b2 ∧ b2 < 192) ∨ (b0 = 224 ∧ b1 < 160) ∨ (b0 = 237 ∧ 160 ≤ b1)
    · rw [if_pos g3]; exact .inl ⟨rfl, g0, .inr (.inr (.inr (.inl ⟨by omega, g3⟩)))⟩
    rw [if_neg g3]
    have k3 : (2 < n ∧ 128 ≤ b2 ∧ b2 < 192) := Classical.byContradiction fun h => g3 (.inl h)
    have k4 : ¬ (b0 = 224 ∧ b1 < 160) := fun h => g3 (.inr (.inl h))
    have k5 : ¬ (b0 = 237 ∧ 160 ≤ b1) := fun h => g3 (.inr (.inr h))
    clear g3
    by_cases g4 : b0 < 240
    · rw [if_pos g4]; exact .inr (.inr (.inr (.inl ⟨rfl, by omega, g4, k1.2.2, k3, k4, k5⟩)))
    rw [if_neg g4]
    by_cases g5 : ¬ (3 < n ∧ 128 ≤ b3 ∧ b3 < 192) ∨ (b0 = 240 ∧ b1 < 144) ∨ (b0 = 244 ∧ 144 ≤ b1)
    · rw [if_pos g5]; exact .inl ⟨rfl, g0, .inr (.inr (.inr (.inr ⟨by omega, g5⟩)))⟩
    rw [if_neg g5]
    exact .inr (.inr (.inr (.inr ⟨rfl, by omega, k1.2.1, k1.2.2, k3, Classical.byContradiction fun h => g5 (.inl h), fun h => g5 (.inr (.inl h)), fun h => g5 (.inr (.inr h))⟩)))
  unfold rv
  generalize sg l = sgl at *
  generalize nb l 0 = b0 at *
  generalize nb l 1 = b1 at *
  generalize nb l 2 = b2 at *
  generalize nb l 3 = b3 at *
  generalize l.length = n at *
  clear h
  rcases hs with ⟨e, hs⟩ | ⟨e, hs⟩ | ⟨e, hs⟩ | ⟨e, hs⟩ | ⟨e, hs⟩
  · unfold decU
    subst e
    simp only [if_true]
    rw [if_neg (by omega)]
    split
    · rw [if_neg (by omega)]; rfl
    split
    · rw [if_neg (by omega)]; rfl
    split
    · rw [if_neg (by omega)]; rfl
    · rfl
  · unfold decU
    subst e
    rw [if_pos hs]
    simp
  · unfold decU
    subst e
    rw [if_neg (by omega), if_pos (by omega), if_pos (by omega)]
    simp; omega
  · unfold decU
    subst e
    rw [ if_neg (by omega), if_neg (by omega), if_pos (by omega), if_pos (by omega)]
    simp; omega
  · unfold decU
    subst e
    rw [ if_neg (by omega), if_neg (by omega), if_neg (by omega), if_pos (by omega), if_pos (by omega)]
    simp; omega
theorem decode_spec (s : ByteArray) (pos : Nat) (h : pos < s.size) : Utf8.decode s pos = (rv (s.data.toList.drop pos), if sg (s.data.toList.drop pos) = 0 then 1 else sg (s.data.toList.drop pos)) := by
  have hl : (s.data.toList.drop pos).length = s.size - pos := by simp
  rw [decode_eq s pos h, ← hl]
  exact decU_spec (by rw [hl]; omega)
end Go.Proofs.Ytphfnmjccdejkaa

/- Layer 5: what quotes make of a text, in plain lists of bytes; the same by runes. Conditions: none. -/
namespace Go.Proofs.Ytphfnmjccdejkaa
open Go.RowKit

theorem nb_zero {l : List UInt8} (h : l.length ≠ 0) : ∃ c r, l = c :: r ∧ nb l 0 = c.toNat := by
  cases l with
  | nil => simp at h
  | cons c r => exact ⟨c, r, rfl, rfl⟩
theorem sg_one {l : List UInt8} : sg l = 1 ↔ (l.length ≠ 0 ∧ nb l 0 < 128) := by
  unfold sg
  constructor
  · intro h
    split at h
    · cases h
    · split at h
      · exact ⟨by assumption, by assumption⟩
      · split at h
        · cases h
        · split at h
          · cases h
          · split at h
            · cases h
            · split at h
              · cases h
              · split at h <;> cases h
  · rintro ⟨h1, h2⟩
    rw [if_neg h1, if_pos h2]
theorem sg_le {l : List UInt8} : sg l ≤ 4 ∧ sg l ≤ l.length := by
  unfold sg
  simp only [tl_false]
  generalize nb l 0 = b0
  generalize nb l 1 = b1
  generalize nb l 2 = b2
  generalize nb l 3 = b3
  generalize l.length = n
  split
  · omega
  split
  · omega
  rename_i h0 h1
  by_cases g1 : b0 < 194 ∨ 244 < b0 ∨ ¬ (1 < n ∧ 128 ≤ b1 ∧ b1 < 192)
  · rw [if_pos g1]; omega
  rw [if_neg g1]
  have k1 : 1 < n := Classical.byContradiction fun h => g1 (.inr (.inr (fun x => h x.1)))
  split
  · omega
  by_cases g3 : ¬ (2 < n ∧ 128 ≤ b2 ∧ b2 < 192) ∨ (b0 = 224 ∧ b1 < 160) ∨ (b0 = 237 ∧ 160 ≤ b1)
  · rw [if_pos g3]; omega
  rw [if_neg g3]
  have k3 : 2 < n := Classical.byContradiction fun h => g3 (.inl (fun x => h x.1))
  split
  · omega
  by_cases g5 : ¬ (3 < n ∧ 128 ≤ b3 ∧ b3 < 192) ∨ (b0 = 240 ∧ b1 < 144) ∨ (b0 = 244 ∧ 144 ≤ b1)
  · rw [if_pos g5]; omega
  rw [if_neg g5]
  have k5 : 3 < n := Classical.byContradiction fun h => g5 (.inl (fun x => h x.1))
  omega

/-- The facts of a sign of two, three, four bytes. -/
theorem sg_facts {l : List UInt8} : (sg l = 2 → 194 ≤ nb l 0 ∧ nb l 0 < 224 ∧ (128 ≤ nb l 1 ∧ nb l 1 < 192)) ∧
    (sg l = 3 → 224 ≤ nb l 0 ∧ nb l 0 < 240 ∧ (128 ≤ nb l 1 ∧ nb l 1 < 192) ∧ (128 ≤ nb l 2 ∧ nb l 2 < 192) ∧ ¬ (nb l 0 = 224 ∧ nb l 1 < 160) ∧ ¬ (nb l 0 = 237 ∧ 160 ≤ nb l 1)) ∧
    (sg l = 4 → 240 ≤ nb l 0 ∧ nb l 0 ≤ 244 ∧ (128 ≤ nb l 1 ∧ nb l 1 < 192) ∧ (128 ≤ nb l 2 ∧ nb l 2 < 192) ∧ (128 ≤ nb l 3 ∧ nb l 3 < 192) ∧ ¬ (nb l 0 = 240 ∧ nb l 1 < 144) ∧ ¬ (nb l 0 = 244 ∧ 144 ≤ nb l 1)) := by
  unfold sg
  simp only [tl_false]
  generalize nb l 0 = b0
  generalize nb l 1 = b1
  generalize nb l 2 = b2
  generalize nb l 3 = b3
  generalize l.length = n
  by_cases h0 : n = 0
  · rw [if_pos h0]; simp
  rw [if_neg h0]
  by_cases h1 : b0 < 128
  · rw [if_pos h1]; simp
  rw [if_neg h1]
  by_cases g1 : b0 < 194 ∨ 244 < b0 ∨ ¬ (1 < n ∧ 128 ≤ b1 ∧ b1 < 192)
  · rw [if_pos g1]; simp
  rw [if_neg g1]
  have k1 : (1 < n ∧ 128 ≤ b1 ∧ b1 < 192) := Classical.byContradiction fun h => g1 (.inr (.inr h))
  have k2 : 194 ≤ b0 ∧ b0 ≤ 244 := ⟨by omega, by omega⟩
  by_cases g2 : b0 < 224
  · rw [if_pos g2]; exact ⟨fun _ => ⟨k2.1, g2, k1.2⟩, fun h => (by cases h), fun h => (by cases h)⟩
  rw [if_neg g2]
  by_cases g3 : ¬ (2 < n ∧ 128 ≤ b2 ∧ b2 < 192) ∨ (b0 = 224 ∧ b1 < 160) ∨ (b0 = 237 ∧ 160 ≤ b1)
  · rw [if_pos g3]; simp
  rw [if_neg g3]
  have k3 : (2 < n ∧ 128 ≤ b2 ∧ b2 < 192) := Classical.byContradiction fun h => g3 (.inl h)
  by_cases g4 : b0 < 240
  · rw [if_pos g4]
    exact ⟨fun h => (by cases h), fun _ => ⟨by omega, g4, k1.2, k3.2, fun h => g3 (.inr (.inl h)), fun h => g3 (.inr (.inr h))⟩, fun h => (by cases h)⟩
  rw [if_neg g4]
  by_cases g5 : ¬ (3 < n ∧ 128 ≤ b3 ∧ b3 < 192) ∨ (b0 = 240 ∧ b1 < 144) ∨ (b0 = 244 ∧ 144 ≤ b1)
  · rw [if_pos g5]; simp
  rw [if_neg g5]
  exact ⟨fun h => (by cases h), fun h => (by cases h), fun _ => ⟨by omega, k2.2, k1.2, k3.2, (Classical.byContradiction fun h => g5 (.inl h) : 3 < n ∧ 128 ≤ b3 ∧ b3 < 192).2, fun h => g5 (.inr (.inl h)), fun h => g5 (.inr (.inr h))⟩⟩

theorem take_nb (l : List UInt8) (n : Nat) (h : n ≤ l.length) : l.take n = (List.range n).map fun k => UInt8.ofNat (nb l k) := by
  apply List.ext_getElem?
  intro i
  rw [List.getElem?_take]
  by_cases hi : i < n
  · rw [if_pos hi, List.getElem?_map, List.getElem?_range hi]
    have hl : l[i]? = some l[i] := List.getElem?_eq_getElem (by omega)
    unfold nb
    rw [hl]
    simp [hl]
  · rw [if_neg hi, List.getElem?_eq_none (by simpa using hi)]

/-- The rune, written as bytes, is the sign. -/
theorem encode_sign {l : List UInt8} (h : sg l ≠ 0) : Lib.encodeRune (rv l : Int) = l.take (sg l) := by
  have h0 := nb_lt l 0
  have h1 := nb_lt l 1
  have h2 := nb_lt l 2
  have h3 := nb_lt l 3
  obtain ⟨f2, f3, f4⟩ := sg_facts (l := l)
  have hle := (sg_le (l := l)).2
  rw [take_nb l _ hle]
  have hc : sg l = 1 ∨ sg l = 2 ∨ sg l = 3 ∨ sg l = 4 := by have := (sg_le (l := l)).1; omega
  rcases hc with e | e | e | e
  · have hn := (sg_one.1 e).2
    have hr : rv l = nb l 0 := by unfold rv; rw [if_pos e]
    rw [hr, e]
    unfold Lib.encodeRune
    rw [Lib.encodeRuneZ_one (by omega) (by omega)]
    simp only [List.range, List.range.loop, List.map_cons, List.map_nil, Int.toNat_natCast]
  · obtain ⟨a, b, c, d⟩ := f2 e
    have hr : rv l = (nb l 0 - 192) * 64 + (nb l 1 - 128) := by unfold rv; rw [if_neg (by omega), if_pos e]
    rw [e]
    unfold Lib.encodeRune
    generalize rv l = r at *
    rw [Lib.encodeRuneZ_two (by omega) (by omega)]
    have e0 : (192 + (r : Int) / 64).toNat = nb l 0 := by omega
    have e1 : (128 + (r : Int) % 64).toNat = nb l 1 := by omega
    simp only [List.range, List.range.loop, List.map_cons, List.map_nil, e0, e1]
  · obtain ⟨a, b, ⟨c, d⟩, ⟨p, q⟩, u, v⟩ := f3 e
    have hr : rv l = (nb l 0 - 224) * 4096 + (nb l 1 - 128) * 64 + (nb l 2 - 128) := by unfold rv; rw [if_neg (by omega), if_neg (by omega), if_pos e]
    rw [e]
    unfold Lib.encodeRune
    generalize rv l = r at *
    rw [Lib.encodeRuneZ_three (by omega)]
    have e0 : (224 + (r : Int) / 4096).toNat = nb l 0 := by omega
    have e1 : (128 + (r : Int) / 64 % 64).toNat = nb l 1 := by omega
    have e2 : (128 + (r : Int) % 64).toNat = nb l 2 := by omega
    simp only [List.range, List.range.loop, List.map_cons, List.map_nil, e0, e1, e2]
  · obtain ⟨a, b, ⟨c, d⟩, ⟨p, q⟩, ⟨x, y⟩, u, v⟩ := f4 e
    have hr : rv l = (nb l 0 - 240) * 262144 + (nb l 1 - 128) * 4096 + (nb l 2 - 128) * 64 + (nb l 3 - 128) := by unfold rv; rw [if_neg (by omega), if_neg (by omega), if_neg (by omega), if_pos e]
    rw [e]
    unfold Lib.encodeRune
    generalize rv l = r at *
    rw [Lib.encodeRuneZ_four (by omega) (by omega)]
    have e0 : (240 + (r : Int) / 262144).toNat = nb l 0 := by omega
    have e1 : (128 + (r : Int) / 4096 % 64).toNat = nb l 1 := by omega
    have e2 : (128 + (r : Int) / 64 % 64).toNat = nb l 2 := by omega
    have e3 : (128 + (r : Int) % 64).toNat = nb l 3 := by omega
    simp only [List.range, List.range.loop, List.map_cons, List.map_nil, e0, e1, e2, e3]

/-- A rune beyond ASCII. -/
theorem rv_big {l : List UInt8} (h : ¬ nb l 0 < 128) : 128 ≤ rv l := by
  obtain ⟨f2, f3, f4⟩ := sg_facts (l := l)
  have hc : sg l = 0 ∨ sg l = 2 ∨ sg l = 3 ∨ sg l = 4 := by
    have := (sg_le (l := l)).1
    have h1 : sg l ≠ 1 := fun e => h (sg_one.1 e).2
    omega
  unfold rv
  rcases hc with e | e | e | e
  · rw [e]; simp
  · have := f2 e; rw [if_neg (by omega), if_pos e]; omega
  · have := f3 e; rw [if_neg (by omega), if_neg (by omega), if_pos e]; omega
  · have := f4 e; rw [if_neg (by omega), if_neg (by omega), if_neg (by omega), if_pos e]; omega
theorem prefix_iff {l : List UInt8} : Lib.hasPrefix l [239, 191, 189] = true ↔ (3 ≤ l.length ∧ nb l 0 = 239 ∧ nb l 1 = 191 ∧ nb l 2 = 189) := by
  unfold Lib.hasPrefix nb
  match l with
  | [] => simp
  | [a] => simp
  | [a, b] => simp
  | a :: b :: c :: r =>
    simp [← UInt8.toNat_inj]
    exact ⟨fun ⟨h1, h2, h3⟩ => ⟨h1.symm, h2.symm, h3.symm⟩, fun ⟨h1, h2, h3⟩ => ⟨h1.symm, h2.symm, h3.symm⟩⟩
/-- No sign: the rune 65533 where the text has not that sign's bytes. -/
theorem bad_iff {l : List UInt8} (h0 : l.length ≠ 0) : (rv l = 65533 ∧ Lib.hasPrefix l [239, 191, 189] = false) ↔ sg l = 0 := by
  obtain ⟨f2, f3, f4⟩ := sg_facts (l := l)
  have h1 := nb_lt l 0
  constructor
  · rintro ⟨hr, hp⟩
    have hp' : ¬ (3 ≤ l.length ∧ nb l 0 = 239 ∧ nb l 1 = 191 ∧ nb l 2 = 189) := fun h => by rw [prefix_iff.2 h] at hp; cases hp
    have hle := sg_le (l := l)
    have hc : sg l = 0 ∨ sg l = 1 ∨ sg l = 2 ∨ sg l = 3 ∨ sg l = 4 := by omega
    unfold rv at hr
    rcases hc with e | e | e | e | e
    · exact e
    · rw [if_pos e] at hr; have := (sg_one.1 e).2; omega
    · have := f2 e; rw [if_neg (by omega), if_pos e] at hr; omega
    · have := f3 e; rw [if_neg (by omega), if_neg (by omega), if_pos e] at hr; omega
    · have := f4 e; rw [if_neg (by omega), if_neg (by omega), if_neg (by omega), if_pos e] at hr; omega
  · intro e
    refine ⟨by unfold rv; rw [e]; simp, ?_⟩
    cases hp : Lib.hasPrefix l [239, 191, 189] with
    | false => rfl
    | true =>
      obtain ⟨h3, a, b, c⟩ := prefix_iff.1 hp
      exfalso
      unfold sg at e
      simp only [tl_false, a, b, c] at e
      rw [if_neg h0] at e
      simp at e
      omega
end Go.Proofs.Ytphfnmjccdejkaa

/- Layer 5: the contracts of the reference's tail, Sign, Letter, Digit. Conditions: none. -/
namespace Go.Proofs.Ytphfnmjccdejkaa
open Go.RowKit
set_option linter.unusedSimpArgs false
set_option linter.unusedVariables false

theorem nb_drop (l : List UInt8) (p k : Nat) : nb (l.drop p) k = nb l (p + k) := by unfold nb; rw [List.getElem?_drop]
theorem tl_drop (l : List UInt8) (p k : Nat) : tl (l.drop p) k = tl l (p + k) := by
  unfold tl
  rw [nb_drop, List.length_drop]
  congr 2
  exact decide_eq_decide.2 (by omega)
theorem nb_get (s : ByteArray) (i : Nat) (h : i < s.size) : s[i].toNat = nb s.data.toList i := by
  unfold nb
  rw [List.getElem?_eq_getElem (by simpa using h)]
  rfl

theorem tail_any (s : ByteArray) (i : Nat) (w : World) (hs : s.size ≤ 9223372036854775000) (hi : i ≤ 9223372036854775000) :
    Calls Try.prog 47 #[.string s, .int .i64 i] w fun e w' => e = .returned (.bool (tl s.data.toList i)) ∧ w = w' := by
  have hl : s.data.toList.length = s.size := by simp
  by_cases h1 : i < s.size
  · have hx := nb_get s i h1
    have HT : Hid (tl s.data.toList i = (decide (128 ≤ nb s.data.toList i) && decide (nb s.data.toList i < 192))) := Lib.hid (by unfold tl; rw [hl]; simp [h1])
    rw [HT.out]
    clear HT hl
    generalize nb s.data.toList i = b at *
    by_cases h2 : 128 ≤ b
    · by_cases h3 : b < 192
      · have HE : Hid ((decide (128 ≤ b) && decide (b < 192)) = true) := Lib.hid (by simp [h2, h3])
        have h2' : (128 : Int) ≤ b := by omega
        have h3' : (b : Int) < 192 := by omega
        rw [HE.out]
        go_enter Try.func47, Try.ntmps47
        go_wp2_with fail
        go_ret
        exact ⟨rfl, rfl⟩
      · have HE : Hid ((decide (128 ≤ b) && decide (b < 192)) = false) := Lib.hid (by simp [h3])
        have h2' : (128 : Int) ≤ b := by omega
        have h3' : ¬ (b : Int) < 192 := by omega
        rw [HE.out]
        go_enter Try.func47, Try.ntmps47
        go_wp2_with fail
        go_ret
        exact ⟨rfl, rfl⟩
    · have HE : Hid ((decide (128 ≤ b) && decide (b < 192)) = false) := Lib.hid (by simp [h2])
      have h2' : ¬ (128 : Int) ≤ b := by omega
      rw [HE.out]
      go_enter Try.func47, Try.ntmps47
      go_wp2_with fail
      go_ret
      exact ⟨rfl, rfl⟩
  · have HE : Hid (tl s.data.toList i = false) := Lib.hid (by rw [tl_false, hl]; omega)
    rw [HE.out]
    clear hl
    go_enter Try.func47, Try.ntmps47
    go_wp2_with fail
    go_ret
    exact ⟨rfl, rfl⟩

set_option maxHeartbeats 2000000 in
set_option maxRecDepth 20000 in
theorem sign_any (s : ByteArray) (i : Nat) (w : World) (hs : s.size ≤ 9223372036854770000) (hi : i ≤ 9223372036854770000) :
    Calls Try.prog 36 #[.string s, .int .i64 i] w fun e w' => e = .returned (.int .i64 (sg (s.data.toList.drop i))) ∧ w = w' := by
  have hl : (s.data.toList.drop i).length = s.size - i := by simp
  by_cases h1 : i < s.size
  · have hx := nb_get s i h1
    have T1 := Lib.hid (tail_any s (i + 1) w (by omega) (by omega))
    have T2 := Lib.hid (tail_any s (i + 2) w (by omega) (by omega))
    have T3 := Lib.hid (tail_any s (i + 3) w (by omega) (by omega))
    have HS : Hid (sg (s.data.toList.drop i) = if nb s.data.toList i < 128 then 1 else if nb s.data.toList i < 194 ∨ 244 < nb s.data.toList i ∨ tl s.data.toList (i + 1) = false then 0 else if nb s.data.toList i < 224 then 2
        else if tl s.data.toList (i + 2) = false ∨ (nb s.data.toList i = 224 ∧ nb s.data.toList (i + 1) < 160) ∨ (nb s.data.toList i = 237 ∧ 160 ≤ nb s.data.toList (i + 1)) then 0 else if nb s.data.toList i < 240 then 3
        else if tl s.data.toList (i + 3) = false ∨ (nb s.data.toList i = 240 ∧ nb s.data.toList (i + 1) < 144) ∨ (nb s.data.toList i = 244 ∧ 144 ≤ nb s.data.toList (i + 1)) then 0 else 4) := Lib.hid (by
      unfold sg
      rw [if_neg (by omega)]
      simp only [nb_drop, tl_drop, Nat.add_zero])
    rw [HS.out]
    clear HS hl
    have hd : tl s.data.toList (i + 1) = true → ∃ h : i + 1 < s.size, s[i + 1].toNat = nb s.data.toList (i + 1) := fun h => by
      have := (tl_true.1 h).1
      simp at this
      exact ⟨this, nb_get s (i + 1) this⟩
    have HD := Lib.hid hd
    clear hd
    generalize nb s.data.toList i = b at *
    subst hx
    generalize hdd : nb s.data.toList (i + 1) = d at *
    generalize tl s.data.toList (i + 1) = t1 at *
    generalize tl s.data.toList (i + 2) = t2 at *
    generalize tl s.data.toList (i + 3) = t3 at *
    clear hdd
    by_cases g0 : s[i].toNat < 128
    · have g0' : (s[i].toNat : Int) < 128 := by omega
      rw [if_pos g0]
      clear HD T1 T2 T3
      go_enter Try.func36, Try.ntmps36
      go_wp2_with fail
      go_ret
      exact ⟨rfl, rfl⟩
    rw [if_neg g0]
    have g0' : ¬ (s[i].toNat : Int) < 128 := by omega
    by_cases g1 : s[i].toNat < 194
    · have g1' : (s[i].toNat : Int) < 194 := by omega
      rw [if_pos (.inl g1)]
      clear HD
      go_enter Try.func36, Try.ntmps36
      go_wp2_with fail
      go_ret
      exact ⟨rfl, rfl⟩
    have g1' : ¬ (s[i].toNat : Int) < 194 := by omega
    by_cases g2 : 244 < s[i].toNat
    · have g2' : (244 : Int) < s[i].toNat := by omega
      rw [if_pos (.inr (.inl g2))]
      go_enter Try.func36, Try.ntmps36
      go_wp2_with fail
      go_ret
      exact ⟨rfl, rfl⟩
    have g2' : ¬ (244 : Int) < s[i].toNat := by omega
    cases t1 with
    | false =>
      rw [if_pos (.inr (.inr rfl))]
      go_enter Try.func36, Try.ntmps36
      go_wp2_with fail
      refine T1.out.mono ?_; rintro e w' ⟨rfl, rfl⟩
      go_wp2_with fail
      go_ret
      exact ⟨rfl, rfl⟩
    | true =>
      obtain ⟨hd1, hd2⟩ := HD.out rfl
      clear HD
      subst hd2
      rw [if_neg (by simp; omega)]
      by_cases g3 : s[i].toNat < 224
      · have g3' : (s[i].toNat : Int) < 224 := by omega
        rw [if_pos g3]
        go_enter Try.func36, Try.ntmps36
        go_wp2_with fail
        refine T1.out.mono ?_; rintro e w' ⟨rfl, rfl⟩
        go_wp2_with fail
        go_ret
        exact ⟨rfl, rfl⟩
      rw [if_neg g3]
      have g3' : ¬ (s[i].toNat : Int) < 224 := by omega
      have B1 : (s[i].toNat : Int) ≤ 244 := by omega
      clear B1
      cases t2 with
      | false =>
        rw [if_pos (.inl rfl)]
        go_enter Try.func36, Try.ntmps36
        go_wp2_with fail
        refine T1.out.mono ?_; rintro e w' ⟨rfl, rfl⟩
        go_wp2_with fail
        refine T2.out.mono ?_; rintro e w' ⟨rfl, rfl⟩
        go_wp2_with fail
        go_ret
        exact ⟨rfl, rfl⟩
      | true =>
        by_cases e1 : s[i].toNat = 224
        · by_cases d1 : s[i + 1].toNat < 160
          · have d1' : (s[i + 1].toNat : Int) < 160 := by omega
            have q224 : (((s[i].toNat : Nat) : Int) == 224) = true := by simp; omega
            rw [if_pos (.inr (.inl ⟨e1, d1⟩))]
            go_enter Try.func36, Try.ntmps36
            go_wp2_with fail
            refine T1.out.mono ?_; rintro e w' ⟨rfl, rfl⟩
            go_wp2_with fail
            refine T2.out.mono ?_; rintro e w' ⟨rfl, rfl⟩
            go_wp2_with fail
            go_ret
            exact ⟨rfl, rfl⟩
          · have d1' : ¬ (s[i + 1].toNat : Int) < 160 := by omega
            have g4 : (s[i].toNat : Int) < 240 := by omega
            have q224 : (((s[i].toNat : Nat) : Int) == 224) = true := by simp; omega
            have q237 : (((s[i].toNat : Nat) : Int) == 237) = false := by simp; omega
            rw [if_neg (by simp; omega), if_pos (by omega)]
            go_enter Try.func36, Try.ntmps36
            go_wp2_with fail
            refine T1.out.mono ?_; rintro e w' ⟨rfl, rfl⟩
            go_wp2_with fail
            refine T2.out.mono ?_; rintro e w' ⟨rfl, rfl⟩
            go_wp2_with fail
            go_ret
            exact ⟨rfl, rfl⟩
        have q224 : (((s[i].toNat : Nat) : Int) == 224) = false := by simp; omega
        by_cases e2 : s[i].toNat = 237
        · by_cases d1 : 160 ≤ s[i + 1].toNat
          · have d1' : (160 : Int) ≤ s[i + 1].toNat := by omega
            have q237 : (((s[i].toNat : Nat) : Int) == 237) = true := by simp; omega
            rw [if_pos (.inr (.inr ⟨e2, d1⟩))]
            go_enter Try.func36, Try.ntmps36
            go_wp2_with fail
            refine T1.out.mono ?_; rintro e w' ⟨rfl, rfl⟩
            go_wp2_with fail
            refine T2.out.mono ?_; rintro e w' ⟨rfl, rfl⟩
            go_wp2_with fail
            go_ret
            exact ⟨rfl, rfl⟩
          · have d1' : ¬ (160 : Int) ≤ s[i + 1].toNat := by omega
            have g4 : (s[i].toNat : Int) < 240 := by omega
            have q237 : (((s[i].toNat : Nat) : Int) == 237) = true := by simp; omega
            rw [if_neg (by simp; omega), if_pos (by omega)]
            go_enter Try.func36, Try.ntmps36
            go_wp2_with fail
            refine T1.out.mono ?_; rintro e w' ⟨rfl, rfl⟩
            go_wp2_with fail
            refine T2.out.mono ?_; rintro e w' ⟨rfl, rfl⟩
            go_wp2_with fail
            go_ret
            exact ⟨rfl, rfl⟩
        have q237 : (((s[i].toNat : Nat) : Int) == 237) = false := by simp; omega
        rw [if_neg (by simp; omega)]
        by_cases g4 : s[i].toNat < 240
        · have g4' : (s[i].toNat : Int) < 240 := by omega
          rw [if_pos g4]
          go_enter Try.func36, Try.ntmps36
          go_wp2_with fail
          refine T1.out.mono ?_; rintro e w' ⟨rfl, rfl⟩
          go_wp2_with fail
          refine T2.out.mono ?_; rintro e w' ⟨rfl, rfl⟩
          go_wp2_with fail
          go_ret
          exact ⟨rfl, rfl⟩
        have g4' : ¬ (s[i].toNat : Int) < 240 := by omega
        rw [if_neg g4]
        cases t3 with
        | false =>
          rw [if_pos (.inl rfl)]
          go_enter Try.func36, Try.ntmps36
          go_wp2_with fail
          refine T1.out.mono ?_; rintro e w' ⟨rfl, rfl⟩
          go_wp2_with fail
          refine T2.out.mono ?_; rintro e w' ⟨rfl, rfl⟩
          go_wp2_with fail
          refine T3.out.mono ?_; rintro e w' ⟨rfl, rfl⟩
          go_wp2_with fail
          go_ret
          exact ⟨rfl, rfl⟩
        | true =>
          by_cases e3 : s[i].toNat = 240
          · by_cases d1 : s[i + 1].toNat < 144
            · have d1' : (s[i + 1].toNat : Int) < 144 := by omega
              have q240 : (((s[i].toNat : Nat) : Int) == 240) = true := by simp; omega
              rw [if_pos (.inr (.inl ⟨e3, d1⟩))]
              go_enter Try.func36, Try.ntmps36
              go_wp2_with fail
              refine T1.out.mono ?_; rintro e w' ⟨rfl, rfl⟩
              go_wp2_with fail
              refine T2.out.mono ?_; rintro e w' ⟨rfl, rfl⟩
              go_wp2_with fail
              refine T3.out.mono ?_; rintro e w' ⟨rfl, rfl⟩
              go_wp2_with fail
              go_ret
              exact ⟨rfl, rfl⟩
            · have d1' : ¬ (s[i + 1].toNat : Int) < 144 := by omega
              have q240 : (((s[i].toNat : Nat) : Int) == 240) = true := by simp; omega
              have q244 : (((s[i].toNat : Nat) : Int) == 244) = false := by simp; omega
              rw [if_neg (by simp; omega)]
              go_enter Try.func36, Try.ntmps36
              go_wp2_with fail
              refine T1.out.mono ?_; rintro e w' ⟨rfl, rfl⟩
              go_wp2_with fail
              refine T2.out.mono ?_; rintro e w' ⟨rfl, rfl⟩
              go_wp2_with fail
              refine T3.out.mono ?_; rintro e w' ⟨rfl, rfl⟩
              go_wp2_with fail
              go_ret
              exact ⟨rfl, rfl⟩
          have q240 : (((s[i].toNat : Nat) : Int) == 240) = false := by simp; omega
          by_cases e4 : s[i].toNat = 244
          · by_cases d1 : 144 ≤ s[i + 1].toNat
            · have d1' : (144 : Int) ≤ s[i + 1].toNat := by omega
              have q244 : (((s[i].toNat : Nat) : Int) == 244) = true := by simp; omega
              rw [if_pos (.inr (.inr ⟨e4, d1⟩))]
              go_enter Try.func36, Try.ntmps36
              go_wp2_with fail
              refine T1.out.mono ?_; rintro e w' ⟨rfl, rfl⟩
              go_wp2_with fail
              refine T2.out.mono ?_; rintro e w' ⟨rfl, rfl⟩
              go_wp2_with fail
              refine T3.out.mono ?_; rintro e w' ⟨rfl, rfl⟩
              go_wp2_with fail
              go_ret
              exact ⟨rfl, rfl⟩
            · have d1' : ¬ (144 : Int) ≤ s[i + 1].toNat := by omega
              have q244 : (((s[i].toNat : Nat) : Int) == 244) = true := by simp; omega
              rw [if_neg (by simp; omega)]
              go_enter Try.func36, Try.ntmps36
              go_wp2_with fail
              refine T1.out.mono ?_; rintro e w' ⟨rfl, rfl⟩
              go_wp2_with fail
              refine T2.out.mono ?_; rintro e w' ⟨rfl, rfl⟩
              go_wp2_with fail
              refine T3.out.mono ?_; rintro e w' ⟨rfl, rfl⟩
              go_wp2_with fail
              go_ret
              exact ⟨rfl, rfl⟩
          have q244 : (((s[i].toNat : Nat) : Int) == 244) = false := by simp; omega
          rw [if_neg (by simp; omega)]
          go_enter Try.func36, Try.ntmps36
          go_wp2_with fail
          refine T1.out.mono ?_; rintro e w' ⟨rfl, rfl⟩
          go_wp2_with fail
          refine T2.out.mono ?_; rintro e w' ⟨rfl, rfl⟩
          go_wp2_with fail
          refine T3.out.mono ?_; rintro e w' ⟨rfl, rfl⟩
          go_wp2_with fail
          go_ret
          exact ⟨rfl, rfl⟩
  · have HE : Hid (sg (s.data.toList.drop i) = 0) := Lib.hid (by unfold sg; rw [if_pos (by omega)])
    have h1' : (s.size : Int) ≤ i := by omega
    rw [HE.out]
    clear hl
    go_enter Try.func36, Try.ntmps36
    go_wp2_with fail
    go_ret
    exact ⟨rfl, rfl⟩
end Go.Proofs.Ytphfnmjccdejkaa

/- Layer 5: the contracts of Letter, Digit, Hex. Written by genS4.py. Conditions: none. -/
namespace Go.Proofs.Ytphfnmjccdejkaa
open Go.RowKit
set_option linter.unusedSimpArgs false
set_option linter.unusedVariables false

def letter (c : Nat) : Bool := decide ((97 ≤ c ∧ c ≤ 122) ∨ (65 ≤ c ∧ c ≤ 90) ∨ c = 95)
def digt (c : Nat) : Bool := decide (48 ≤ c ∧ c ≤ 57)
def hexv (c : Nat) : Int := if 48 ≤ c ∧ c ≤ 57 then (c : Int) - 48 else if 97 ≤ c ∧ c ≤ 102 then (c : Int) - 97 + 10 else if 65 ≤ c ∧ c ≤ 70 then (c : Int) - 65 + 10 else -1

set_option maxRecDepth 20000 in
theorem letter_any (c : Nat) (hc : c < 256) (w : World) :
    Calls Try.prog 38 #[.int .u8 c] w fun e w' => e = .returned (.bool (letter c)) ∧ w = w' := by
  by_cases a : 97 ≤ c
  · have a' : (97 : Int) ≤ c := by omega
    by_cases b : c ≤ 122
    · have b' : (c : Int) ≤ 122 := by omega
      have HE : Hid (letter c = true) := Lib.hid (decide_eq_true (by omega))
      rw [HE.out]
      go_enter Try.func38, Try.ntmps38
      go_wp2_with fail
      go_ret
      exact ⟨rfl, rfl⟩
    · have b' : ¬ (c : Int) ≤ 122 := by omega
      have u1 : (65 : Int) ≤ c := by omega
      have u2 : ¬ (c : Int) ≤ 90 := by omega
      have hq : ((c : Int) == 95) = false := by simp; omega
      have HE : Hid (letter c = false) := Lib.hid (decide_eq_false (by omega))
      rw [HE.out]
      go_enter Try.func38, Try.ntmps38
      go_wp2_with fail
      go_ret
      exact ⟨rfl, rfl⟩
  · have a' : ¬ (97 : Int) ≤ c := by omega
    by_cases b : 65 ≤ c
    · have b' : (65 : Int) ≤ c := by omega
      by_cases d : c ≤ 90
      · have d' : (c : Int) ≤ 90 := by omega
        have HE : Hid (letter c = true) := Lib.hid (decide_eq_true (by omega))
        rw [HE.out]
        go_enter Try.func38, Try.ntmps38
        go_wp2_with fail
        go_ret
        exact ⟨rfl, rfl⟩
      · have d' : ¬ (c : Int) ≤ 90 := by omega
        by_cases e : c = 95
        · have e' : ((c : Int) == 95) = true := by simp; omega
          have HE : Hid (letter c = true) := Lib.hid (decide_eq_true (by omega))
          rw [HE.out]
          go_enter Try.func38, Try.ntmps38
          go_wp2_with fail
          go_ret
          exact ⟨rfl, rfl⟩
        · have e' : ((c : Int) == 95) = false := by simp; omega
          have HE : Hid (letter c = false) := Lib.hid (decide_eq_false (by omega))
          rw [HE.out]
          go_enter Try.func38, Try.ntmps38
          go_wp2_with fail
          go_ret
          exact ⟨rfl, rfl⟩
    · have b' : ¬ (65 : Int) ≤ c := by omega
      have hq : ((c : Int) == 95) = false := by simp; omega
      have HE : Hid (letter c = false) := Lib.hid (decide_eq_false (by omega))
      rw [HE.out]
      go_enter Try.func38, Try.ntmps38
      go_wp2_with fail
      go_ret
      exact ⟨rfl, rfl⟩

set_option maxRecDepth 20000 in
theorem digit_any (c : Nat) (hc : c < 256) (w : World) :
    Calls Try.prog 39 #[.int .u8 c] w fun e w' => e = .returned (.bool (digt c)) ∧ w = w' := by
  by_cases a : 48 ≤ c
  · have a' : (48 : Int) ≤ c := by omega
    by_cases b : c ≤ 57
    · have b' : (c : Int) ≤ 57 := by omega
      have HE : Hid (digt c = true) := Lib.hid (decide_eq_true (by omega))
      rw [HE.out]
      go_enter Try.func39, Try.ntmps39
      go_wp2_with fail
      go_ret
      exact ⟨rfl, rfl⟩
    · have b' : ¬ (c : Int) ≤ 57 := by omega
      have HE : Hid (digt c = false) := Lib.hid (decide_eq_false (by omega))
      rw [HE.out]
      go_enter Try.func39, Try.ntmps39
      go_wp2_with fail
      go_ret
      exact ⟨rfl, rfl⟩
  · have a' : ¬ (48 : Int) ≤ c := by omega
    have HE : Hid (digt c = false) := Lib.hid (decide_eq_false (by omega))
    rw [HE.out]
    go_enter Try.func39, Try.ntmps39
    go_wp2_with fail
    go_ret
    exact ⟨rfl, rfl⟩

set_option maxRecDepth 20000 in
theorem hexv_any (c : Nat) (hc : c < 256) (w : World) :
    Calls Try.prog 37 #[.int .u8 c] w fun e w' => e = .returned (.int .i64 (hexv c)) ∧ w = w' := by
  have D := Lib.hid (digit_any c hc w)
  by_cases g : 48 ≤ c ∧ c ≤ 57
  · have g1 : (48 : Int) ≤ c := by omega
    have g2 : (c : Int) ≤ 57 := by omega
    have HE : Hid (hexv c = (c : Int) - 48) := Lib.hid (by unfold hexv; (repeat' split) <;> omega)
    have HD : Hid (digt c = true) := Lib.hid (decide_eq_true (by omega))
    rw [HE.out]
    rw [HD.out] at D
    go_enter Try.func37, Try.ntmps37
    go_wp2_with fail
    refine D.out.mono ?_; rintro e w' ⟨rfl, rfl⟩
    go_wp2_with fail
    go_ret
    exact ⟨rfl, rfl⟩
  by_cases a : 97 ≤ c
  · have a' : (97 : Int) ≤ c := by omega
    by_cases b : c ≤ 102
    · have b' : (c : Int) ≤ 102 := by omega
      have HE : Hid (hexv c = (c : Int) - 97 + 10) := Lib.hid (by unfold hexv; (repeat' split) <;> omega)
      have HD : Hid (digt c = false) := Lib.hid (decide_eq_false (by omega))
      rw [HE.out]
      rw [HD.out] at D
      go_enter Try.func37, Try.ntmps37
      go_wp2_with fail
      refine D.out.mono ?_; rintro e w' ⟨rfl, rfl⟩
      go_wp2_with fail
      go_ret
      exact ⟨rfl, rfl⟩
    · have b' : ¬ (c : Int) ≤ 102 := by omega
      have u1 : (65 : Int) ≤ c := by omega
      have u2 : ¬ (c : Int) ≤ 70 := by omega
      have HE : Hid (hexv c = -1) := Lib.hid (by unfold hexv; (repeat' split) <;> omega)
      have HD : Hid (digt c = false) := Lib.hid (decide_eq_false (by omega))
      rw [HE.out]
      rw [HD.out] at D
      go_enter Try.func37, Try.ntmps37
      go_wp2_with fail
      refine D.out.mono ?_; rintro e w' ⟨rfl, rfl⟩
      go_wp2_with fail
      go_ret
      exact ⟨rfl, rfl⟩
  · have a' : ¬ (97 : Int) ≤ c := by omega
    by_cases b : 65 ≤ c
    · have b' : (65 : Int) ≤ c := by omega
      by_cases d : c ≤ 70
      · have d' : (c : Int) ≤ 70 := by omega
        have HE : Hid (hexv c = (c : Int) - 65 + 10) := Lib.hid (by unfold hexv; (repeat' split) <;> omega)
        have HD : Hid (digt c = false) := Lib.hid (decide_eq_false (by omega))
        rw [HE.out]
        rw [HD.out] at D
        go_enter Try.func37, Try.ntmps37
        go_wp2_with fail
        refine D.out.mono ?_; rintro e w' ⟨rfl, rfl⟩
        go_wp2_with fail
        go_ret
        exact ⟨rfl, rfl⟩
      · have d' : ¬ (c : Int) ≤ 70 := by omega
        have HE : Hid (hexv c = -1) := Lib.hid (by unfold hexv; (repeat' split) <;> omega)
        have HD : Hid (digt c = false) := Lib.hid (decide_eq_false (by omega))
        rw [HE.out]
        rw [HD.out] at D
        go_enter Try.func37, Try.ntmps37
        go_wp2_with fail
        refine D.out.mono ?_; rintro e w' ⟨rfl, rfl⟩
        go_wp2_with fail
        go_ret
        exact ⟨rfl, rfl⟩
    · have b' : ¬ (65 : Int) ≤ c := by omega
      have HE : Hid (hexv c = -1) := Lib.hid (by unfold hexv; (repeat' split) <;> omega)
      have HD : Hid (digt c = false) := Lib.hid (decide_eq_false (by omega))
      rw [HE.out]
      rw [HD.out] at D
      go_enter Try.func37, Try.ntmps37
      go_wp2_with fail
      refine D.out.mono ?_; rintro e w' ⟨rfl, rfl⟩
      go_wp2_with fail
      go_ret
      exact ⟨rfl, rfl⟩
end Go.Proofs.Ytphfnmjccdejkaa

/- Layer 5: what quoting makes of a text, in plain lists of bytes. Conditions: none. -/
namespace Go.Proofs.Ytphfnmjccdejkaa
open Go.RowKit
set_option linter.unusedVariables false

/-- The byte of a hexadecimal digit. -/
def hxd (k : Nat) : UInt8 := if k < 10 then UInt8.ofNat (48 + k) else UInt8.ofNat (87 + k)
/-- A byte by its two digits. -/
def hx2 (c : Nat) : List UInt8 := [hxd (c / 16), hxd (c % 16)]
/-- How far a step goes. -/
def stepQ (l : List UInt8) : Nat := if sg l = 0 then 1 else sg l
/-- What a step writes. -/
def pieceQ (l : List UInt8) : List UInt8 :=
  if sg l = 0 ∨ nb l 0 = 127 then [92, 120] ++ hx2 (nb l 0)
  else if nb l 0 = 39 ∨ nb l 0 = 92 then [92, UInt8.ofNat (nb l 0)]
  else if nb l 0 = 10 then [92, 110] else if nb l 0 = 9 then [92, 116] else if nb l 0 = 13 then [92, 114]
  else if nb l 0 < 32 then [92, 120] ++ hx2 (nb l 0) else l.take (sg l)
theorem stepQ_pos (l : List UInt8) : 1 ≤ stepQ l := by unfold stepQ; split <;> omega
theorem stepQ_le {l : List UInt8} (h : l.length ≠ 0) : stepQ l ≤ l.length := by
  have := sg_le (l := l)
  unfold stepQ; split <;> omega
theorem stepQ_le4 (l : List UInt8) : stepQ l ≤ 4 := by
  have := sg_le (l := l)
  unfold stepQ; split <;> omega
theorem pieceQ_le (l : List UInt8) : (pieceQ l).length ≤ 4 := by
  have := sg_le (l := l)
  unfold pieceQ hx2
  repeat' split
  all_goals simp
  omega
/-- What lies between the quotes. -/
def quoteL (l : List UInt8) : List UInt8 := if h : l.length = 0 then [] else pieceQ l ++ quoteL (l.drop (stepQ l))
termination_by l.length
decreasing_by
  have := stepQ_pos l
  simp only [List.length_drop]
  omega
theorem quoteL_nil {l : List UInt8} (h : l.length = 0) : quoteL l = [] := by unfold quoteL; rw [dif_pos h]
theorem quoteL_step {l : List UInt8} (h : l.length ≠ 0) : quoteL l = pieceQ l ++ quoteL (l.drop (stepQ l)) := by rw [quoteL, dif_neg h]
theorem quoteL_len (l : List UInt8) : (quoteL l).length ≤ 4 * l.length := by
  induction hn : l.length using Nat.strongRecOn generalizing l with
  | _ n ih =>
    by_cases h : l.length = 0
    · rw [quoteL_nil h]; simp
    rw [quoteL_step h, List.length_append]
    have h1 := stepQ_pos l
    have h2 := stepQ_le h
    have h3 := pieceQ_le l
    have h4 := ih (l.drop (stepQ l)).length (by simp only [List.length_drop]; omega) (l.drop (stepQ l)) rfl
    simp only [List.length_drop] at h4
    omega
/-- What is written ahead of place i, and that a step goes on with it. -/
def DoneQ (l : List UInt8) (i : Nat) (d : List UInt8) : Prop := i ≤ l.length ∧ d.length ≤ 4 * i ∧ d ++ quoteL (l.drop i) = quoteL l
theorem doneQ_zero (l : List UInt8) : DoneQ l 0 [] := ⟨by omega, by simp, by simp⟩
theorem doneQ_step {l d : List UInt8} {i : Nat} (h : DoneQ l i d) (hi : i < l.length) : DoneQ l (i + stepQ (l.drop i)) (d ++ pieceQ (l.drop i)) := by
  obtain ⟨h1, h2, h3⟩ := h
  have hl : (l.drop i).length ≠ 0 := by simp; omega
  have a := stepQ_le hl
  have b := stepQ_pos (l.drop i)
  have c := pieceQ_le (l.drop i)
  rw [List.length_drop] at a
  refine ⟨by omega, by rw [List.length_append]; omega, ?_⟩
  rw [quoteL_step hl, List.drop_drop] at h3
  rw [← h3, List.append_assoc]
theorem doneQ_end {l d : List UInt8} {i : Nat} (h : DoneQ l i d) (hi : l.length ≤ i) : d = quoteL l := by
  obtain ⟨h1, h2, h3⟩ := h
  rw [quoteL_nil (by simp; omega), List.append_nil] at h3
  exact h3
end Go.Proofs.Ytphfnmjccdejkaa

/- Layer 5: the contract of the reference's hex. Conditions: none. -/
namespace Go.Proofs.Ytphfnmjccdejkaa
open Go.RowKit
set_option linter.unusedSimpArgs false
set_option linter.unusedVariables false

def strOf (l : List UInt8) : ByteArray := ⟨l.toArray⟩
theorem strOf_list (l : List UInt8) : (strOf l).toList = l := by simp [strOf]
theorem strOf_size (l : List UInt8) : (strOf l).size = l.length := by simp [strOf, ByteArray.size]
theorem nums_of_bytes (l : List UInt8) : strOfNums (l.map fun c => (c.toNat : Int)) = strOf l := by
  unfold strOfNums strOf
  rw [List.map_map]
  congr 2
  refine (List.map_congr_left fun c _ => ?_).trans (List.map_id l)
  simp
theorem lit_at (k : Nat) (h : k < 16) : ∀ h' : k < (ByteArray.mk #[48, 49, 50, 51, 52, 53, 54, 55, 56, 57, 97, 98, 99, 100, 101, 102]).size, (ByteArray.mk #[48, 49, 50, 51, 52, 53, 54, 55, 56, 57, 97, 98, 99, 100, 101, 102])[k].toNat = (hxd k).toNat := by
  have : k = 0 ∨ k = 1 ∨ k = 2 ∨ k = 3 ∨ k = 4 ∨ k = 5 ∨ k = 6 ∨ k = 7 ∨ k = 8 ∨ k = 9 ∨ k = 10 ∨ k = 11 ∨ k = 12 ∨ k = 13 ∨ k = 14 ∨ k = 15 := by omega
  rcases this with h | h | h | h | h | h | h | h | h | h | h | h | h | h | h | h <;> subst h <;> intro _ <;> rfl

theorem convTwo (w : World) (b d : UInt8) : (convert 37 9 (.slice (some ⟨w.heap.size, 0, none⟩) 2 2)).run Try.prog (w.alloc (.cells #[.int .u8 b.toNat, .int .u8 d.toNat] 5)).drew = .ok (.string (strOf [b, d])) (w.alloc (.cells #[.int .u8 b.toNat, .int .u8 d.toNat] 5)).drew := by
  have hc := run_convert_bytes_arg (P := Try.prog) (w.alloc (.cells #[.int .u8 b.toNat, .int .u8 d.toNat] 5)).drew 37 5 Try.underlying37 Try.underlying5 w.heap.size 0 2 2 ([b, d].map fun c => (c.toNat : Int)) rfl (fun i hi => by
    have : i = 0 ∨ i = 1 := by omega
    rcases this with h | h <;> subst h <;> simp) 9 Try.underlying9
  rw [nums_of_bytes] at hc
  exact hc

set_option maxRecDepth 20000 in
theorem hex_any (c : Nat) (hc : c < 256) (w : World) :
    Calls Try.prog 46 #[.int .u8 c] w fun e w' => e = .returned (.string (strOf (hx2 c))) ∧ Below w.heap.size w w' := by
  rw [show hx2 c = [hxd (c / 16), hxd (c % 16)] from rfl]
  have hq : (c : Int).tdiv 16 = ((c / 16 : Nat) : Int) := by rw [Int.tdiv_eq_ediv_of_nonneg (by omega)]; omega
  have hr : (c : Int).tmod 16 = ((c % 16 : Nat) : Int) := by rw [Int.tmod_eq_emod_of_nonneg (by omega)]; omega
  have h1 : c / 16 < 16 := by omega
  have h2 : c % 16 < 16 := by omega
  have L1 := lit_at _ h1 h1
  have L2 := lit_at _ h2 h2
  generalize c / 16 = p at *
  generalize c % 16 = q at *
  go_enter Try.func46, Try.ntmps46
  go_wp2_with fail
  have HV := convTwo w (hxd p) (hxd q)
  go_region
  go_wp2_with fail
  go_ret
  exact ⟨rfl, ((Below.refl _ _).alloc (Nat.le_refl _) _).drew⟩
end Go.Proofs.Ytphfnmjccdejkaa

/- Layer 5: the contract of the reference's Quote. Written by genS7.py. Conditions: the text is no longer than 2^40. -/
namespace Go.Proofs.Ytphfnmjccdejkaa
open Go.RowKit
set_option linter.unusedSimpArgs false
set_option linter.unusedVariables false

theorem strOf_append (p q : List UInt8) : strOf p ++ strOf q = strOf (p ++ q) := by
  apply ByteArray.ext; simp [strOf]
theorem extract_strOf (s : ByteArray) (k n : Nat) (h : k + n ≤ s.size) : s.extract k (k + n) = strOf ((s.data.toList.drop k).take n) := by
  apply ByteArray.ext
  apply Array.ext'
  simp [strOf]
/-- Adding a text to a text of bytes. -/
theorem add_of (p q : List UInt8) (B : ByteArray) (hB : strOf q = B) (u : World) (h : p.length + q.length ≤ 9223372036854775807) {r : List UInt8} (hr : p ++ q = r) : (Op.stringOp .add (strOf p) B).run Try.prog u = .ok (.string (strOf r)) u := by
  subst hr
  subst hB
  rw [← strOf_append]
  exact run_string_add_sum (P := Try.prog) (w := u) (strOf p) (strOf q) (by rw [strOf_size, strOf_size]; exact h)

set_option maxRecDepth 20000 in
set_option maxHeartbeats 2000000 in
theorem rquote_any (s : ByteArray) (W : World) (hs : s.size ≤ 1099511627776) :
    Calls Try.prog 35 #[.string s] W fun e w' => e = .returned (.string (strOf (39 :: (quoteL s.data.toList ++ [39])))) ∧ Below W.heap.size W w' := by
  obtain ⟨l, hl⟩ : ∃ l, s.data.toList = l := ⟨_, rfl⟩
  have hll : l.length = s.size := by rw [← hl]; simp
  go_enter Try.func35, Try.ntmps35
  go_wp2_with fail
  go_loopw [3, 4] (fun o i wr => ∃ (k : Nat) (d : List UInt8), k ≤ s.size ∧ i = .int .i64 k ∧ o = .string (strOf (39 :: d)) ∧ Hid (DoneQ s.data.toList k d) ∧ Below W.heap.size W wr) (fun _ i _ => s.size - (intOf i).toNat)
  case atStart => exact ⟨0, [], Nat.zero_le _, rfl, rfl, Lib.hid (doneQ_zero _), Below.refl _ _⟩
  case round =>
    obtain ⟨k, d, hk, rfl, rfl, hd, hb⟩ := hrel
    have HB := Lib.hid hb
    clear hb
    have hdl := hd.out.2.1
    by_cases hlt : k < s.size
    · have hx := nb_get s k hlt
      have hc : s[k].toNat < 256 := by have := s[k].toNat_lt; omega
      have HS := Lib.hid (sign_any s k wr (by omega) (by omega))
      have NX := Lib.hid (doneQ_step hd.out (by simp; exact hlt))
      have hn4 := sg_le (l := s.data.toList.drop k)
      have HP : Hid (pieceQ (s.data.toList.drop k) = if sg (s.data.toList.drop k) = 0 ∨ s[k].toNat = 127 then [92, 120] ++ hx2 s[k].toNat
          else if s[k].toNat = 39 ∨ s[k].toNat = 92 then [92, UInt8.ofNat s[k].toNat]
          else if s[k].toNat = 10 then [92, 110] else if s[k].toNat = 9 then [92, 116] else if s[k].toNat = 13 then [92, 114]
          else if s[k].toNat < 32 then [92, 120] ++ hx2 s[k].toNat else (s.data.toList.drop k).take (sg (s.data.toList.drop k))) := Lib.hid (by unfold pieceQ; rw [hx, nb_drop, Nat.add_zero])
      have HT : Hid (stepQ (s.data.toList.drop k) = if sg (s.data.toList.drop k) = 0 then 1 else sg (s.data.toList.drop k)) := Lib.hid rfl
      have hq : (k : Int) < s.size := by omega
      have h7 : s[k].toNat < 128 → sg (s.data.toList.drop k) = 1 := fun h => sg_one.2 ⟨by simp; omega, by rw [nb_drop, Nat.add_zero, ← hx]; exact h⟩
      have hone : (s.data.toList.drop k).take 1 = [UInt8.ofNat s[k].toNat] := by rw [List.drop_eq_getElem_cons (by simpa using hlt)]; simp; rfl
      have HX1 := Lib.hid (extract_strOf s k 1 (by omega))
      rw [hone] at HX1
      clear hone
      have HXn := Lib.hid (extract_strOf s k (sg (s.data.toList.drop k)) (by have := hn4.2; simp at this; omega))
      have hnl : ((s.data.toList.drop k).take (sg (s.data.toList.drop k))).length ≤ 4 := by simp; omega
      generalize sg (s.data.toList.drop k) = n at *
      generalize (s.data.toList.drop k).take n = S at *
      generalize pieceQ (s.data.toList.drop k) = P at *
      generalize stepQ (s.data.toList.drop k) = m at *
      obtain ⟨Y, hY⟩ : ∃ Y, d ++ P = Y := ⟨_, rfl⟩
      rw [hY] at NX
      have HY := Lib.hid hY
      have hkn : n ≤ 4 ∧ k + n ≤ s.size := by have := hn4.2; simp at this; omega
      clear hl hll hY hx hn4
      by_cases a1 : n = 0
      · have q1 : ((n : Int) == 0) = true := by simp; omega
        have HPv := Lib.hid (HP.out.trans (if_pos (.inl a1)))
        rw [if_pos a1] at HT
        have hP : 39 :: d ++ [92, 120] ++ hx2 s[k].toNat = 39 :: Y := by rw [← HY.out, HPv.out]; simp
        obtain ⟨X, hX⟩ : ∃ X, 39 :: d ++ [92, 120] = X := ⟨_, rfl⟩
        have hXl : X.length ≤ 4 * k + 10 := by rw [← hX]; simp; omega
        have ha1 := fun u => add_of (39 :: d) [92, 120] ⟨#[92, 120]⟩ rfl u (by simp; omega) hX
        rw [hX] at hP
        have ha2 := fun u => add_of X (hx2 s[k].toNat) _ rfl u (by unfold hx2; simp; omega) hP
        have HH := Lib.hid (hex_any s[k].toNat hc wr)
        clear hX hXl hP
        go_wp2_with fail
        refine HS.out.mono ?_; rintro e w' ⟨rfl, rfl⟩
        go_wp2_with fail
        refine HH.out.mono ?_; rintro e w8 ⟨rfl, hb8⟩
        have HB8 := Lib.hid hb8
        clear hb8
        go_wp2_with fail
        go_roundw
        case rel => exact ⟨k + 1, Y, by omega, by go_num, rfl, Lib.hid (by have := NX.out; rw [HT.out] at this; simpa using this), below_step HB.out rfl HB8.out⟩
        case measure => simp [intOf]; omega
      have q1 : ((n : Int) == 0) = false := by simp; omega
      rw [if_neg a1] at HT
      by_cases a2 : s[k].toNat = 127
      · have q2 : (((s[k].toNat : Nat) : Int) == 127) = true := by simp; omega
        have HPv := Lib.hid (HP.out.trans (if_pos (.inr a2)))
        have n1 := Lib.hid (h7 (by omega))
        clear h7 a2
        have hP : 39 :: d ++ [92, 120] ++ hx2 s[k].toNat = 39 :: Y := by rw [← HY.out, HPv.out]; simp
        obtain ⟨X, hX⟩ : ∃ X, 39 :: d ++ [92, 120] = X := ⟨_, rfl⟩
        have hXl : X.length ≤ 4 * k + 10 := by rw [← hX]; simp; omega
        have ha1 := fun u => add_of (39 :: d) [92, 120] ⟨#[92, 120]⟩ rfl u (by simp; omega) hX
        rw [hX] at hP
        have ha2 := fun u => add_of X (hx2 s[k].toNat) _ rfl u (by unfold hx2; simp; omega) hP
        have HH := Lib.hid (hex_any s[k].toNat hc wr)
        clear hX hXl hP
        go_wp2_with fail
        refine HS.out.mono ?_; rintro e w' ⟨rfl, rfl⟩
        go_wp2_with fail
        refine HH.out.mono ?_; rintro e w8 ⟨rfl, hb8⟩
        have HB8 := Lib.hid hb8
        clear hb8
        go_wp2_with fail
        go_roundw
        case rel => exact ⟨k + 1, Y, by omega, by go_num, rfl, Lib.hid (by have := NX.out; rw [HT.out, n1.out] at this; simpa using this), below_step HB.out rfl HB8.out⟩
        case measure => simp [intOf]; omega
      have q2 : (((s[k].toNat : Nat) : Int) == 127) = false := by simp; omega
      have HP := Lib.hid (HP.out.trans (if_neg (by omega)))
      by_cases a3 : s[k].toNat = 39 ∨ s[k].toNat = 92
      · skip
        by_cases a4 : s[k].toNat = 39
        · have q3 : (((s[k].toNat : Nat) : Int) == 39) = true := by simp; omega
          have HPv := Lib.hid (HP.out.trans (if_pos a3))
          have n1 := Lib.hid (h7 (by omega))
          obtain ⟨X, hX⟩ : ∃ X, 39 :: d ++ [92] = X := ⟨_, rfl⟩
          have hXl : X.length ≤ 4 * k + 10 := by rw [← hX]; simp; omega
          have hP : X ++ [UInt8.ofNat s[k].toNat] = 39 :: Y := by rw [← HY.out, HPv.out, ← hX]; simp
          have ha1 := fun u => add_of (39 :: d) [92] ⟨#[92]⟩ rfl u (by simp; omega) hX
          have ha2 := fun u => add_of X [UInt8.ofNat s[k].toNat] _ HX1.out.symm u (by simp; omega) hP
          clear hX hXl hP h7 a3 a4
          go_wp2_with fail
          refine HS.out.mono ?_; rintro e w' ⟨rfl, rfl⟩
          go_wp2_with fail
          go_roundw
          case rel => exact ⟨k + n, Y, by omega, by go_num, rfl, Lib.hid (by have := NX.out; rw [HT.out] at this; simpa using this), HB.out⟩
          case measure => simp [intOf]; omega
        have q3 : (((s[k].toNat : Nat) : Int) == 39) = false := by simp; omega
        have q4 : (((s[k].toNat : Nat) : Int) == 92) = true := by simp; omega
        have HPv := Lib.hid (HP.out.trans (if_pos a3))
        have n1 := Lib.hid (h7 (by omega))
        obtain ⟨X, hX⟩ : ∃ X, 39 :: d ++ [92] = X := ⟨_, rfl⟩
        have hXl : X.length ≤ 4 * k + 10 := by rw [← hX]; simp; omega
        have hP : X ++ [UInt8.ofNat s[k].toNat] = 39 :: Y := by rw [← HY.out, HPv.out, ← hX]; simp
        have ha1 := fun u => add_of (39 :: d) [92] ⟨#[92]⟩ rfl u (by simp; omega) hX
        have ha2 := fun u => add_of X [UInt8.ofNat s[k].toNat] _ HX1.out.symm u (by simp; omega) hP
        clear hX hXl hP h7 a3
        go_wp2_with fail
        refine HS.out.mono ?_; rintro e w' ⟨rfl, rfl⟩
        go_wp2_with fail
        go_roundw
        case rel => exact ⟨k + n, Y, by omega, by go_num, rfl, Lib.hid (by have := NX.out; rw [HT.out] at this; simpa using this), HB.out⟩
        case measure => simp [intOf]; omega
      have q3 : (((s[k].toNat : Nat) : Int) == 39) = false := by simp; omega
      have q4 : (((s[k].toNat : Nat) : Int) == 92) = false := by simp; omega
      have HP := Lib.hid (HP.out.trans (if_neg a3))
      by_cases b10 : s[k].toNat = 10
      · have q5 : (((s[k].toNat : Nat) : Int) == 10) = true := by simp; omega
        have HPv := Lib.hid (HP.out.trans (if_pos b10))
        have ha1 := fun u => add_of (39 :: d) [92, 110] ⟨#[92, 110]⟩ rfl u (by simp; omega) (r := 39 :: Y) (by rw [← HY.out, HPv.out]; simp)
        go_wp2_with fail
        refine HS.out.mono ?_; rintro e w' ⟨rfl, rfl⟩
        go_wp2_with fail
        go_roundw
        case rel => exact ⟨k + n, Y, by omega, by go_num, rfl, Lib.hid (by have := NX.out; rw [HT.out] at this; simpa using this), HB.out⟩
        case measure => simp [intOf]; omega
      have r10 : (((s[k].toNat : Nat) : Int) == 10) = false := by simp; omega
      have HP := Lib.hid (HP.out.trans (if_neg b10))
      by_cases b9 : s[k].toNat = 9
      · have q5 : (((s[k].toNat : Nat) : Int) == 9) = true := by simp; omega
        have HPv := Lib.hid (HP.out.trans (if_pos b9))
        have ha1 := fun u => add_of (39 :: d) [92, 116] ⟨#[92, 116]⟩ rfl u (by simp; omega) (r := 39 :: Y) (by rw [← HY.out, HPv.out]; simp)
        go_wp2_with fail
        refine HS.out.mono ?_; rintro e w' ⟨rfl, rfl⟩
        go_wp2_with fail
        go_roundw
        case rel => exact ⟨k + n, Y, by omega, by go_num, rfl, Lib.hid (by have := NX.out; rw [HT.out] at this; simpa using this), HB.out⟩
        case measure => simp [intOf]; omega
      have r9 : (((s[k].toNat : Nat) : Int) == 9) = false := by simp; omega
      have HP := Lib.hid (HP.out.trans (if_neg b9))
      by_cases b13 : s[k].toNat = 13
      · have q5 : (((s[k].toNat : Nat) : Int) == 13) = true := by simp; omega
        have HPv := Lib.hid (HP.out.trans (if_pos b13))
        have ha1 := fun u => add_of (39 :: d) [92, 114] ⟨#[92, 114]⟩ rfl u (by simp; omega) (r := 39 :: Y) (by rw [← HY.out, HPv.out]; simp)
        go_wp2_with fail
        refine HS.out.mono ?_; rintro e w' ⟨rfl, rfl⟩
        go_wp2_with fail
        go_roundw
        case rel => exact ⟨k + n, Y, by omega, by go_num, rfl, Lib.hid (by have := NX.out; rw [HT.out] at this; simpa using this), HB.out⟩
        case measure => simp [intOf]; omega
      have r13 : (((s[k].toNat : Nat) : Int) == 13) = false := by simp; omega
      have HP := Lib.hid (HP.out.trans (if_neg b13))
      by_cases a5 : s[k].toNat < 32
      · have q6 : (s[k].toNat : Int) < 32 := by omega
        have HPv := Lib.hid (HP.out.trans (if_pos a5))
        clear h7
        have hP : 39 :: d ++ [92, 120] ++ hx2 s[k].toNat = 39 :: Y := by rw [← HY.out, HPv.out]; simp
        obtain ⟨X, hX⟩ : ∃ X, 39 :: d ++ [92, 120] = X := ⟨_, rfl⟩
        have hXl : X.length ≤ 4 * k + 10 := by rw [← hX]; simp; omega
        have ha1 := fun u => add_of (39 :: d) [92, 120] ⟨#[92, 120]⟩ rfl u (by simp; omega) hX
        rw [hX] at hP
        have ha2 := fun u => add_of X (hx2 s[k].toNat) _ rfl u (by unfold hx2; simp; omega) hP
        have HH := Lib.hid (hex_any s[k].toNat hc wr)
        clear hX hXl hP
        go_wp2_with fail
        refine HS.out.mono ?_; rintro e w' ⟨rfl, rfl⟩
        go_wp2_with fail
        refine HH.out.mono ?_; rintro e w8 ⟨rfl, hb8⟩
        have HB8 := Lib.hid hb8
        clear hb8
        go_wp2_with fail
        go_roundw
        case rel => exact ⟨k + n, Y, by omega, by go_num, rfl, Lib.hid (by have := NX.out; rw [HT.out] at this; simpa using this), below_step HB.out rfl HB8.out⟩
        case measure => simp [intOf]; omega
      · have q6 : ¬ (s[k].toNat : Int) < 32 := by omega
        have HPv := Lib.hid (HP.out.trans (if_neg a5))
        have ha1 := fun u => add_of (39 :: d) S _ HXn.out.symm u (by simp; omega) (r := 39 :: Y) (by rw [← HY.out, HPv.out]; simp)
        clear h7 hnl
        go_wp2_with fail
        refine HS.out.mono ?_; rintro e w' ⟨rfl, rfl⟩
        go_wp2_with fail
        go_roundw
        case rel => exact ⟨k + n, Y, by omega, by go_num, rfl, Lib.hid (by have := NX.out; rw [HT.out] at this; simpa using this), HB.out⟩
        case measure => simp [intOf]; omega
    · have HE := Lib.hid (doneQ_end hd.out (by simp; omega))
      have hadd := fun u => add_of (39 :: d) [39] ⟨#[39]⟩ rfl u (by simp; omega) (r := 39 :: (d ++ [39])) rfl
      have hq : ¬ (k : Int) < s.size := by omega
      clear hl hll
      go_wp2_with fail
      go_ret
      exact ⟨by rw [← HE.out]; rfl, HB.out⟩
end Go.Proofs.Ytphfnmjccdejkaa

/- The shelf's contracts of strings.Builder and of a few functions of strings at this dump, under one numbering. Conditions: none. -/
namespace Go.Proofs.Ytphfnmjccdejkaa
open Go.Shelf Go.Proofs Go.RowKit
def shRen : Go.Shelf.Ren := ⟨fun | 99 => 50 | 137 => 61 | 143 => 45 | 144 => 31 | 206 => 56 | 217 => 57 | 219 => 54 | 224 => 59 | 225 => 58 | 266 => 62 | 267 => 60 | 314 => 63 | n => n, fun | 3 => 3 | 4 => 4 | 5 => 5 | 9 => 9 | 46 => 71 | 51 => 74 | 146 => 75 | n => n, fun | n => n⟩
theorem shLays99 : Go.Proofs.Lays.n99 Try.prog shRen := {
  mixed := by kernel_rfl
  f99 := Try.func50.trans (congrArg some (by kernel_rfl))
  f206 := Try.func56.trans (congrArg some (by kernel_rfl))
  t3 := Try.underlying3
  a3 := Try.isAgg3
  z3 := Try.sizeOf3
  v3 := Try.zeroValue3
  t4 := Try.underlying4
  a4 := Try.isAgg4
  z4 := Try.sizeOf4
  v4 := Try.zeroValue4
  t9 := Try.underlying9
  a9 := Try.isAgg9
  z9 := Try.sizeOf9
  v9 := Try.zeroValue9
}
theorem shLays137 : Go.Proofs.Lays.n137 Try.prog shRen := {
  mixed := by kernel_rfl
  f137 := Try.func61.trans (congrArg some (by kernel_rfl))
  f217 := Try.func57.trans (congrArg some (by kernel_rfl))
  f266 := Try.func62.trans (congrArg some (by kernel_rfl))
  t3 := Try.underlying3
  a3 := Try.isAgg3
  z3 := Try.sizeOf3
  v3 := Try.zeroValue3
  t5 := Try.underlying5
  a5 := Try.isAgg5
  z5 := Try.sizeOf5
  v5 := Try.zeroValue5
  t9 := Try.underlying9
  a9 := Try.isAgg9
  z9 := Try.sizeOf9
  v9 := Try.zeroValue9
}
end Go.Proofs.Ytphfnmjccdejkaa

/- Layer 5: the builder's writers over lists of bytes; the contract of coded. Conditions: none. -/
namespace Go.Proofs.Ytphfnmjccdejkaa
open Go.RowKit Go.Shelf
set_option linter.unusedSimpArgs false
set_option linter.unusedVariables false
end Go.Proofs.Ytphfnmjccdejkaa

/- Layer 5: what quoting makes of a sign, by its rune. Conditions: none. -/
namespace Go.Proofs.Ytphfnmjccdejkaa
open Go.RowKit
set_option linter.unusedVariables false

theorem rv_small {l : List UInt8} (h0 : l.length ≠ 0) (h : rv l < 128) : sg l = 1 ∧ nb l 0 = rv l := by
  have h1 : nb l 0 < 128 := Classical.byContradiction fun hh => by have := rv_big hh; omega
  have h2 := sg_one.2 ⟨h0, h1⟩
  exact ⟨h2, by unfold rv; rw [if_pos h2]⟩
theorem encode_one {l : List UInt8} (h : sg l = 1) : Lib.encodeRune (rv l : Int) = [UInt8.ofNat (nb l 0)] := by
  rw [encode_sign (by omega), h, take_nb l 1 (by have := (sg_le (l := l)).2; omega)]; rfl
theorem pieceQ_1 {l : List UInt8} (h0 : l.length ≠ 0) (h : rv l = 92 ∨ rv l = 39) : pieceQ l = [92] ++ Lib.encodeRune (rv l : Int) := by
  obtain ⟨h1, h2⟩ := rv_small h0 (by omega)
  rw [encode_one h1]
  unfold pieceQ
  rw [if_neg (by omega), if_pos (by omega)]
  rfl
theorem pieceQ_10 {l : List UInt8} (h0 : l.length ≠ 0) (h : rv l = 10) : pieceQ l = [92, 110] := by
  obtain ⟨h1, h2⟩ := rv_small h0 (by omega)
  unfold pieceQ
  rw [if_neg (by omega), if_neg (by omega), if_pos (by omega)]
theorem pieceQ_9 {l : List UInt8} (h0 : l.length ≠ 0) (h : rv l = 9) : pieceQ l = [92, 116] := by
  obtain ⟨h1, h2⟩ := rv_small h0 (by omega)
  unfold pieceQ
  rw [if_neg (by omega), if_neg (by omega), if_neg (by omega), if_pos (by omega)]
theorem pieceQ_13 {l : List UInt8} (h0 : l.length ≠ 0) (h : rv l = 13) : pieceQ l = [92, 114] := by
  obtain ⟨h1, h2⟩ := rv_small h0 (by omega)
  unfold pieceQ
  rw [if_neg (by omega), if_neg (by omega), if_neg (by omega), if_neg (by omega), if_pos (by omega)]
theorem pieceQ_c {l : List UInt8} (h0 : l.length ≠ 0) (h : (rv l < 32 ∧ rv l ≠ 10 ∧ rv l ≠ 9 ∧ rv l ≠ 13) ∨ rv l = 127 ∨ (rv l = 65533 ∧ Lib.hasPrefix l [239, 191, 189] = false)) : pieceQ l = [92, 120] ++ hx2 (nb l 0) := by
  unfold pieceQ
  rcases h with h | h | h
  · obtain ⟨h1, h2⟩ := rv_small h0 (by omega)
    rw [if_neg (by omega), if_neg (by omega), if_neg (by omega), if_neg (by omega), if_neg (by omega), if_pos (by omega)]
  · obtain ⟨h1, h2⟩ := rv_small h0 (by omega)
    rw [if_pos (by omega)]
  · rw [if_pos (.inl ((bad_iff h0).1 h))]
theorem pieceQ_r {l : List UInt8} (h0 : l.length ≠ 0) (h1 : rv l ≠ 92) (h2 : rv l ≠ 39) (h3 : ¬ rv l < 32) (h4 : rv l ≠ 127) (h5 : rv l ≠ 65533 ∨ Lib.hasPrefix l [239, 191, 189] = true) : pieceQ l = Lib.encodeRune (rv l : Int) := by
  have hs : sg l ≠ 0 := fun e => by
    have := (bad_iff h0).2 e
    rcases h5 with h5 | h5
    · exact h5 this.1
    · rw [h5] at this; cases this.2
  rw [encode_sign hs]
  unfold pieceQ
  by_cases hb : nb l 0 < 128
  · have h6 := sg_one.2 ⟨h0, hb⟩
    have h7 : rv l = nb l 0 := by unfold rv; rw [if_pos h6]
    rw [if_neg (by omega), if_neg (by omega), if_neg (by omega), if_neg (by omega), if_neg (by omega), if_neg (by omega)]
  · rw [if_neg (by omega), if_neg (by omega), if_neg (by omega), if_neg (by omega), if_neg (by omega), if_neg (by omega)]
end Go.Proofs.Ytphfnmjccdejkaa

/- Layer 5: the contract of the program's Quote. Written by genS10.py. Conditions: the text is no longer than 2^40. -/
namespace Go.Proofs.Ytphfnmjccdejkaa
open Go.RowKit Go.Shelf
set_option linter.unusedSimpArgs false
set_option linter.unusedVariables false

theorem hasPrefix_any (s : ByteArray) (b : Bool) (w : World) (h : Lib.hasPrefix s.data.toList [239, 191, 189] = b) :
    Calls Try.prog 50 #[.string s, .string ⟨#[239, 191, 189]⟩] w fun e w' => e = .returned (.bool b) ∧ w = w' := by
  refine (Any.strings_HasPrefix { shLays99 with } s ⟨#[239, 191, 189]⟩ w).mono ?_
  rintro e w' ⟨rfl, rfl⟩
  exact ⟨by rw [← h], rfl⟩
end Go.Proofs.Ytphfnmjccdejkaa

/- Layer 5: what a text in quotes stands for, in plain lists of bytes. Conditions: none. -/
namespace Go.Proofs.Ytphfnmjccdejkaa
open Go.RowKit
set_option linter.unusedVariables false

/-- The byte for which an escape stands; a list that begins with a backslash. -/
def escV (l : List UInt8) : Option (UInt8 × Nat) :=
  if l.length < 2 then none
  else if nb l 1 = 92 ∨ nb l 1 = 39 then some (UInt8.ofNat (nb l 1), 2)
  else if nb l 1 = 110 then some (10, 2) else if nb l 1 = 116 then some (9, 2) else if nb l 1 = 114 then some (13, 2)
  else if l.length < 4 ∨ nb l 1 ≠ 120 ∨ hexv (nb l 2) < 0 ∨ hexv (nb l 3) < 0 then none
  else some (UInt8.ofNat (hexv (nb l 2) * 16 + hexv (nb l 3)).toNat, 4)
theorem escV_len {l : List UInt8} {x : UInt8} {n : Nat} (h : escV l = some (x, n)) : (n = 2 ∨ n = 4) ∧ n ≤ l.length := by
  unfold escV at h
  by_cases h1 : l.length < 2
  · rw [if_pos h1] at h; cases h
  rw [if_neg h1] at h
  by_cases h2 : nb l 1 = 92 ∨ nb l 1 = 39
  · rw [if_pos h2] at h; cases h; omega
  rw [if_neg h2] at h
  by_cases h3 : nb l 1 = 110
  · rw [if_pos h3] at h; cases h; omega
  rw [if_neg h3] at h
  by_cases h4 : nb l 1 = 116
  · rw [if_pos h4] at h; cases h; omega
  rw [if_neg h4] at h
  by_cases h5 : nb l 1 = 114
  · rw [if_pos h5] at h; cases h; omega
  rw [if_neg h5] at h
  by_cases h6 : l.length < 4 ∨ nb l 1 ≠ 120 ∨ hexv (nb l 2) < 0 ∨ hexv (nb l 3) < 0
  · rw [if_pos h6] at h; cases h
  rw [if_neg h6] at h; cases h; omega
/-- No sign, a control byte, a quote or a backslash. -/
def bad (l : List UInt8) : Prop := sg l = 0 ∨ nb l 0 < 32 ∨ nb l 0 = 127
instance (l : List UInt8) : Decidable (bad l) := by unfold bad; infer_instance

/-- What stands ahead of the first quote, and what behind it (steps k; more than the bytes never fail). -/
def qdN : Nat → List UInt8 → Option (List UInt8 × List UInt8)
  | 0, _ => none
  | k + 1, l =>
    if l.length = 0 then none else if nb l 0 = 39 then some ([], l.drop 1) else if bad l then none
    else if nb l 0 = 92 then (match escV l with | none => none | some (x, n) => (qdN k (l.drop n)).map fun p => (x :: p.1, p.2))
    else (qdN k (l.drop (sg l))).map fun p => (l.take (sg l) ++ p.1, p.2)
/-- A text between quotes: what it stands for. -/
def uqN : Nat → List UInt8 → Option (List UInt8)
  | 0, _ => some []
  | k + 1, l =>
    if l.length = 0 then some [] else if nb l 0 = 92 then (match escV l with | none => none | some (x, n) => (uqN k (l.drop n)).map fun p => x :: p)
    else if nb l 0 = 39 ∨ bad l then none
    else (uqN k (l.drop (sg l))).map fun p => l.take (sg l) ++ p
theorem bad_not {l : List UInt8} (h : ¬ bad l) : sg l ≠ 0 := fun e => h (.inl e)
theorem qdN_more : ∀ (k : Nat) (l : List UInt8), l.length ≤ k → qdN (k + 1) l = qdN (l.length + 1) l := by
  intro k
  induction k using Nat.strongRecOn with
  | _ k ih =>
    intro l hl
    by_cases hk : k = l.length
    · rw [hk]
    obtain ⟨j, rfl⟩ : ∃ j, k = j + 1 := ⟨k - 1, by omega⟩
    by_cases h0 : l.length = 0
    · simp [qdN, h0]
    have hstep : ∀ n, 1 ≤ n → n ≤ l.length → qdN (j + 1) (l.drop n) = qdN l.length (l.drop n) := fun n h1 h2 => by
      have a := ih j (by omega) (l.drop n) (by simp; omega)
      obtain ⟨m, hm⟩ : ∃ m, l.length = m + 1 := ⟨l.length - 1, by omega⟩
      rw [hm]
      by_cases hmj : m = j
      · rw [hmj]
      have b := ih m (by omega) (l.drop n) (by simp; omega)
      rw [a, b]
    rw [qdN]
    conv => rhs; rw [qdN]
    rw [if_neg h0, if_neg h0]
    by_cases h1 : nb l 0 = 39
    · rw [if_pos h1, if_pos h1]
    rw [if_neg h1, if_neg h1]
    by_cases h2 : bad l
    · rw [if_pos h2, if_pos h2]
    rw [if_neg h2, if_neg h2]
    by_cases h3 : nb l 0 = 92
    · rw [if_pos h3, if_pos h3]
      cases he : escV l with
      | none => rfl
      | some p =>
        obtain ⟨x, n⟩ := p
        have := escV_len he
        simp only []
        rw [hstep n (by omega) this.2]
    · rw [if_neg h3, if_neg h3, hstep (sg l) (by have := bad_not h2; omega) (sg_le).2]
theorem uqN_more : ∀ (k : Nat) (l : List UInt8), l.length ≤ k → uqN k l = uqN l.length l := by
  intro k
  induction k using Nat.strongRecOn with
  | _ k ih =>
    intro l hl
    by_cases hk : k = l.length
    · rw [hk]
    obtain ⟨j, rfl⟩ : ∃ j, k = j + 1 := ⟨k - 1, by omega⟩
    by_cases h0 : l.length = 0
    · rw [uqN, if_pos h0, h0, uqN]
    obtain ⟨m, hm⟩ : ∃ m, l.length = m + 1 := ⟨l.length - 1, by omega⟩
    have hstep : ∀ n, 1 ≤ n → n ≤ l.length → uqN j (l.drop n) = uqN m (l.drop n) := fun n h1 h2 => by
      have a := ih j (by omega) (l.drop n) (by simp; omega)
      have b := ih m (by omega) (l.drop n) (by simp; omega)
      rw [a, b]
    rw [hm, uqN]
    conv => rhs; rw [uqN]
    rw [if_neg h0, if_neg h0]
    by_cases h3 : nb l 0 = 92
    · rw [if_pos h3, if_pos h3]
      cases he : escV l with
      | none => rfl
      | some p =>
        obtain ⟨x, n⟩ := p
        have := escV_len he
        simp only []
        rw [hstep n (by omega) this.2]
    · rw [if_neg h3, if_neg h3]
      by_cases h2 : nb l 0 = 39 ∨ bad l
      · rw [if_pos h2, if_pos h2]
      rw [if_neg h2, if_neg h2, hstep (sg l) (by have := bad_not (fun h => h2 (.inr h)); omega) (sg_le).2]
def qd (l : List UInt8) : Option (List UInt8 × List UInt8) := qdN (l.length + 1) l
def uq (l : List UInt8) : Option (List UInt8) := uqN l.length l
theorem qd_eq (l : List UInt8) : qd l = if l.length = 0 then none else if nb l 0 = 39 then some ([], l.drop 1) else if bad l then none
    else if nb l 0 = 92 then (match escV l with | none => none | some (x, n) => (qd (l.drop n)).map fun p => (x :: p.1, p.2))
    else (qd (l.drop (sg l))).map fun p => (l.take (sg l) ++ p.1, p.2) := by
  unfold qd
  rw [qdN]
  by_cases h0 : l.length = 0
  · rw [if_pos h0, if_pos h0]
  rw [if_neg h0, if_neg h0]
  obtain ⟨m, hm⟩ : ∃ m, l.length = m + 1 := ⟨l.length - 1, by omega⟩
  have hs : ∀ n, 1 ≤ n → n ≤ l.length → qdN l.length (l.drop n) = qdN ((l.drop n).length + 1) (l.drop n) := fun n h1 h2 => by
    rw [hm]; exact qdN_more m (l.drop n) (by simp; omega)
  by_cases h1 : nb l 0 = 39
  · rw [if_pos h1, if_pos h1]
  rw [if_neg h1, if_neg h1]
  by_cases h2 : bad l
  · rw [if_pos h2, if_pos h2]
  rw [if_neg h2, if_neg h2]
  by_cases h3 : nb l 0 = 92
  · rw [if_pos h3, if_pos h3]
    cases he : escV l with
    | none => rfl
    | some p =>
      obtain ⟨x, n⟩ := p
      have := escV_len he
      simp only []
      rw [hs n (by omega) this.2]
  · rw [if_neg h3, if_neg h3, hs (sg l) (by have := bad_not h2; omega) (sg_le).2]
theorem uq_eq (l : List UInt8) : uq l = if l.length = 0 then some [] else if nb l 0 = 92 then (match escV l with | none => none | some (x, n) => (uq (l.drop n)).map fun p => x :: p)
    else if nb l 0 = 39 ∨ bad l then none else (uq (l.drop (sg l))).map fun p => l.take (sg l) ++ p := by
  unfold uq
  by_cases h0 : l.length = 0
  · rw [if_pos h0, h0, uqN]
  obtain ⟨m, hm⟩ : ∃ m, l.length = m + 1 := ⟨l.length - 1, by omega⟩
  have hs : ∀ n, 1 ≤ n → n ≤ l.length → uqN m (l.drop n) = uqN (l.drop n).length (l.drop n) := fun n h1 h2 => uqN_more m (l.drop n) (by simp; omega)
  rw [hm, uqN, if_neg h0, if_neg (show ¬ m + 1 = 0 from by omega)]
  by_cases h3 : nb l 0 = 92
  · rw [if_pos h3, if_pos h3]
    cases he : escV l with
    | none => rfl
    | some p =>
      obtain ⟨x, n⟩ := p
      have := escV_len he
      simp only []
      rw [hs n (by omega) this.2]
  · rw [if_neg h3, if_neg h3]
    by_cases h2 : nb l 0 = 39 ∨ bad l
    · rw [if_pos h2, if_pos h2]
    rw [if_neg h2, if_neg h2, hs (sg l) (by have := bad_not (fun h => h2 (.inr h)); omega) (sg_le).2]
/-- What is read is at most as long. -/
theorem uq_len : ∀ (k : Nat) (l : List UInt8), l.length = k → ∀ t, uq l = some t → t.length ≤ l.length := by
  intro k
  induction k using Nat.strongRecOn with
  | _ k ih =>
    intro l hl t ht
    rw [uq_eq] at ht
    by_cases h0 : l.length = 0
    · rw [if_pos h0] at ht; cases ht; simp
    rw [if_neg h0] at ht
    have key : ∀ (n : Nat) (p : List UInt8), p.length ≤ n → 1 ≤ n → n ≤ l.length → (uq (l.drop n)).map (fun q => p ++ q) = some t → t.length ≤ l.length := fun n p h1 h2 h3 h4 => by
      cases hu : uq (l.drop n) with
      | none => rw [hu] at h4; cases h4
      | some q =>
        rw [hu] at h4
        have := ih (l.drop n).length (by simp; omega) (l.drop n) rfl q hu
        cases h4
        simp at this ⊢
        omega
    by_cases h3 : nb l 0 = 92
    · rw [if_pos h3] at ht
      cases he : escV l with
      | none => rw [he] at ht; cases ht
      | some p =>
        obtain ⟨x, n⟩ := p
        rw [he] at ht
        have := escV_len he
        exact key n [x] (by simp; omega) (by omega) this.2 ht
    · rw [if_neg h3] at ht
      by_cases h2 : nb l 0 = 39 ∨ bad l
      · rw [if_pos h2] at ht; cases ht
      rw [if_neg h2] at ht
      exact key (sg l) (l.take (sg l)) (by simp; omega) (by have := bad_not (fun h => h2 (.inr h)); omega) sg_le.2 ht
end Go.Proofs.Ytphfnmjccdejkaa

/- Layer 5: the contracts of digit and escaped. Written by genS12.py. Conditions: none. -/
namespace Go.Proofs.Ytphfnmjccdejkaa
open Go.RowKit Go.Shelf
set_option linter.unusedSimpArgs false
set_option linter.unusedVariables false

theorem digV (c : Fin 256) : Lib.indexByte [48, 49, 50, 51, 52, 53, 54, 55, 56, 57, 97, 98, 99, 100, 101, 102] (UInt8.ofNat (if 65 ≤ c.val ∧ c.val ≤ 70 then c.val + 32 else c.val)) = hexv c.val := by
  revert c; decide +kernel
theorem indexHex_any (i : Int) (c : Nat) (hi : i = c) (v : Int) (hv : Lib.indexByte [48, 49, 50, 51, 52, 53, 54, 55, 56, 57, 97, 98, 99, 100, 101, 102] (UInt8.ofNat c) = v) (w : World) :
    Calls Try.prog 61 #[.string ⟨#[48, 49, 50, 51, 52, 53, 54, 55, 56, 57, 97, 98, 99, 100, 101, 102]⟩, .int .u8 i] w fun e w' => e = .returned (.int .i64 v) ∧ w = w' := by
  subst hi
  subst hv
  refine (Any.strings_IndexByte { shLays137 with } ⟨#[48, 49, 50, 51, 52, 53, 54, 55, 56, 57, 97, 98, 99, 100, 101, 102]⟩ c w).mono ?_
  rintro e w' ⟨rfl, rfl⟩
  exact ⟨rfl, rfl⟩
theorem sdigit_any (c : Nat) (hc : c < 256) (w : World) :
    Calls Try.prog 55 #[.int .u8 c] w fun e w' => e = .returned (.int .i64 (hexv c)) ∧ w = w' := by
  have hv := digV ⟨c, hc⟩
  simp only at hv
  generalize hexv c = v at *
  by_cases a : 65 ≤ c
  · have a' : (65 : Int) ≤ c := by omega
    by_cases b : c ≤ 70
    · have b' : (c : Int) ≤ 70 := by omega
      rw [if_pos ⟨a, b⟩] at hv
      have HV := Lib.hid hv
      clear hv
      go_enter Try.func55, Try.ntmps55
      go_wp2_with fail
      refine (indexHex_any _ (c + 32) (by omega) v HV.out w).mono ?_
      rintro e w' ⟨rfl, rfl⟩
      go_wp2_with fail
      go_ret
      exact ⟨rfl, rfl⟩
    · have b' : ¬ (c : Int) ≤ 70 := by omega
      rw [if_neg (by omega)] at hv
      have HV := Lib.hid hv
      clear hv
      go_enter Try.func55, Try.ntmps55
      go_wp2_with fail
      refine (indexHex_any _ c rfl v HV.out w).mono ?_
      rintro e w' ⟨rfl, rfl⟩
      go_wp2_with fail
      go_ret
      exact ⟨rfl, rfl⟩
  · have a' : ¬ (65 : Int) ≤ c := by omega
    rw [if_neg (by omega)] at hv
    have HV := Lib.hid hv
    clear hv
    go_enter Try.func55, Try.ntmps55
    go_wp2_with fail
    refine (indexHex_any _ c rfl v HV.out w).mono ?_
    rintro e w' ⟨rfl, rfl⟩
    go_wp2_with fail
    go_ret
    exact ⟨rfl, rfl⟩

theorem sdigit_any2 (c : Nat) (hc : c < 256) (w : World) :
    Calls Try.prog 55 #[.int .u8 c] w fun e w' => e = .returned (.int .i64 (hexv c)) ∧ w' = w := (sdigit_any c hc w).mono fun _ _ ⟨h, k⟩ => ⟨h, k.symm⟩
theorem or16 : ∀ a b : Fin 16, bits BinOp.or IntKind.i64 ((a.val : Int) * 16) b.val % 256 = ((UInt8.ofNat ((a.val : Int) * (16 : Int) + b.val).toNat).toNat : Int) := by decide +kernel
theorem or_of {a b : Int} (h1 : 0 ≤ a) (h2 : a ≤ 15) (h3 : 0 ≤ b) (h4 : b ≤ 15) : bits BinOp.or IntKind.i64 (a * 16) b % 256 = ((UInt8.ofNat (a * (16 : Int) + b).toNat).toNat : Int) := by
  have h := or16 ⟨a.toNat, by omega⟩ ⟨b.toNat, by omega⟩
  simp only [Int.toNat_of_nonneg h1, Int.toNat_of_nonneg h3] at h
  exact h
theorem below_drewN (w : World) (n : Nat) : Below w.heap.size w (w.drewN n) := by
  induction n with
  | zero => exact Below.refl _ _
  | succ n ih => exact ih.drew
/-- What escaped hands back. -/
def escR (l : List UInt8) : Value := match escV l with | none => .tuple #[.int .u8 0, .int .i64 0] | some (x, n) => .tuple #[.int .u8 x.toNat, .int .i64 n]
theorem hexv_lt (c : Nat) : hexv c ≤ 15 := by unfold hexv; (repeat' split) <;> omega
set_option maxRecDepth 100000 in
set_option maxHeartbeats 1000000 in
theorem escaped_any (s : ByteArray) (w : World) (hs : s.size ≤ 9223372036854770000) :
    Calls Try.prog 49 #[.string s] w fun e w' => e = .returned (escR s.data.toList) ∧ Below w.heap.size w w' := by

  by_cases h1 : s.size < 2
  · have q1 : (s.size : Int) < 2 := by omega
    have HE := Lib.hid (show escR s.data.toList = _ from by unfold escR; rw [show escV s.data.toList = none from by (have hln : s.data.toList.length = s.size := by simp); unfold escV; rw [if_pos (by omega)]])
    rw [HE.out]
    go_enter Try.func49, Try.ntmps49
    go_wp2_with fail
    go_ret2
    exact ⟨rfl, Below.refl _ _⟩
  have q1 : ¬ (s.size : Int) < 2 := by omega
  have HX1 : Hid (s[1].toNat = nb s.data.toList 1) := Lib.hid (nb_get s 1 (by omega))
  have hc1 : s[1].toNat < 256 := by have := s[1].toNat_lt; omega
  by_cases a92 : s[1].toNat = 92
  · have q92 : (((s[1].toNat : Nat) : Int) == 92) = true := by simp; omega
    have HE := Lib.hid (show escR s.data.toList = _ from by unfold escR; rw [show escV s.data.toList = some (UInt8.ofNat (nb s.data.toList 1), 2) from by (have hln : s.data.toList.length = s.size := by simp); have hx := HX1.out; unfold escV; rw [if_neg (by omega), if_pos (by omega)]])
    clear a92
    rw [HE.out]
    go_enter Try.func49, Try.ntmps49
    go_wp2_with fail
    go_ret2
    exact ⟨by rw [← HX1.out]; simp, Below.refl _ _⟩
  have q92 : (((s[1].toNat : Nat) : Int) == 92) = false := by simp; omega
  by_cases a39 : s[1].toNat = 39
  · have q39 : (((s[1].toNat : Nat) : Int) == 39) = true := by simp; omega
    have HE := Lib.hid (show escR s.data.toList = _ from by unfold escR; rw [show escV s.data.toList = some (UInt8.ofNat (nb s.data.toList 1), 2) from by (have hln : s.data.toList.length = s.size := by simp); have hx := HX1.out; unfold escV; rw [if_neg (by omega), if_pos (by omega)]])
    clear a39
    rw [HE.out]
    go_enter Try.func49, Try.ntmps49
    go_wp2_with fail
    go_ret2
    exact ⟨by rw [← HX1.out]; simp, Below.refl _ _⟩
  have q39 : (((s[1].toNat : Nat) : Int) == 39) = false := by simp; omega
  by_cases a110 : s[1].toNat = 110
  · have q110 : (((s[1].toNat : Nat) : Int) == 110) = true := by simp; omega
    have HE := Lib.hid (show escR s.data.toList = _ from by unfold escR; rw [show escV s.data.toList = some (10, 2) from by (have hln : s.data.toList.length = s.size := by simp); have hx := HX1.out; unfold escV; rw [if_neg (by omega), if_neg (by omega), if_pos (by omega)]])
    clear a110
    rw [HE.out]
    go_enter Try.func49, Try.ntmps49
    go_wp2_with fail
    go_ret2
    exact ⟨rfl, Below.refl _ _⟩
  have q110 : (((s[1].toNat : Nat) : Int) == 110) = false := by simp; omega
  by_cases a116 : s[1].toNat = 116
  · have q116 : (((s[1].toNat : Nat) : Int) == 116) = true := by simp; omega
    have HE := Lib.hid (show escR s.data.toList = _ from by unfold escR; rw [show escV s.data.toList = some (9, 2) from by (have hln : s.data.toList.length = s.size := by simp); have hx := HX1.out; unfold escV; rw [if_neg (by omega), if_neg (by omega), if_neg (by omega), if_pos (by omega)]])
    clear a116
    rw [HE.out]
    go_enter Try.func49, Try.ntmps49
    go_wp2_with fail
    go_ret2
    exact ⟨rfl, Below.refl _ _⟩
  have q116 : (((s[1].toNat : Nat) : Int) == 116) = false := by simp; omega
  by_cases a114 : s[1].toNat = 114
  · have q114 : (((s[1].toNat : Nat) : Int) == 114) = true := by simp; omega
    have HE := Lib.hid (show escR s.data.toList = _ from by unfold escR; rw [show escV s.data.toList = some (13, 2) from by (have hln : s.data.toList.length = s.size := by simp); have hx := HX1.out; unfold escV; rw [if_neg (by omega), if_neg (by omega), if_neg (by omega), if_neg (by omega), if_pos (by omega)]])
    clear a114
    rw [HE.out]
    go_enter Try.func49, Try.ntmps49
    go_wp2_with fail
    go_ret2
    exact ⟨rfl, Below.refl _ _⟩
  have q114 : (((s[1].toNat : Nat) : Int) == 114) = false := by simp; omega
  by_cases h4 : s.size < 4
  · have q4 : (s.size : Int) < 4 := by omega
    have HE := Lib.hid (show escR s.data.toList = _ from by unfold escR; rw [show escV s.data.toList = none from by (have hln : s.data.toList.length = s.size := by simp); have hx := HX1.out; unfold escV; rw [if_neg (by omega), if_neg (by omega), if_neg (by omega), if_neg (by omega), if_neg (by omega), if_pos (.inl (by omega))]])
    rw [HE.out]
    go_enter Try.func49, Try.ntmps49
    go_wp2_with fail
    go_ret2
    exact ⟨rfl, Below.refl _ _⟩
  have q4 : ¬ (s.size : Int) < 4 := by omega
  by_cases a120 : s[1].toNat = 120
  rotate_left
  · have q120 : (((s[1].toNat : Nat) : Int) != 120) = true := by simp; omega
    have HE := Lib.hid (show escR s.data.toList = _ from by unfold escR; rw [show escV s.data.toList = none from by (have hln : s.data.toList.length = s.size := by simp); have hx := HX1.out; unfold escV; rw [if_neg (by omega), if_neg (by omega), if_neg (by omega), if_neg (by omega), if_neg (by omega), if_pos (.inr (.inl (by omega)))]])
    rw [HE.out]
    go_enter Try.func49, Try.ntmps49
    go_wp2_with fail
    go_ret2
    exact ⟨rfl, Below.refl _ _⟩
  have q120 : (((s[1].toNat : Nat) : Int) != 120) = false := by simp; omega
  have g2 : 2 < s.size := by omega
  have g3 : 3 < s.size := by omega
  have HX2 : Hid (s[2].toNat = nb s.data.toList 2) := Lib.hid (nb_get s 2 (by omega))
  have HX3 : Hid (s[3].toNat = nb s.data.toList 3) := Lib.hid (nb_get s 3 (by omega))
  have A120 := Lib.hid a120
  clear a120
  have hc2 : s[2].toNat < 256 := by have := s[2].toNat_lt; omega
  have hc3 : s[3].toNat < 256 := by have := s[3].toNat_lt; omega
  have D2 := Lib.hid (sdigit_any s[2].toNat hc2)
  have D3 := Lib.hid (sdigit_any s[3].toNat hc3)
  have l2 := hexv_lt s[2].toNat
  have l3 := hexv_lt s[3].toNat
  by_cases n2 : hexv s[2].toNat < 0
  · have n2x := n2
    have HE := Lib.hid (show escR s.data.toList = _ from by unfold escR; rw [show escV s.data.toList = none from by (have hln : s.data.toList.length = s.size := by simp); have hx := HX1.out; have hx2 := HX2.out; have hx3 := HX3.out; have a120 := A120.out; unfold escV; rw [if_neg (by omega), if_neg (by omega), if_neg (by omega), if_neg (by omega), if_neg (by omega), if_pos (.inr (.inr (.inl (by rw [← hx2]; exact n2))))]])
    rw [HE.out]
    go_enter Try.func49, Try.ntmps49
    go_wp2_with fail
    refine (D2.out w).mono ?_
    rintro e w' ⟨rfl, rfl⟩
    go_wp2_with fail
    go_ret2
    exact ⟨rfl, Below.refl _ _⟩
  by_cases n3 : hexv s[3].toNat < 0
  · have n3x := n3
    have HE := Lib.hid (show escR s.data.toList = _ from by unfold escR; rw [show escV s.data.toList = none from by (have hln : s.data.toList.length = s.size := by simp); have hx := HX1.out; have hx2 := HX2.out; have hx3 := HX3.out; have a120 := A120.out; unfold escV; rw [if_neg (by omega), if_neg (by omega), if_neg (by omega), if_neg (by omega), if_neg (by omega), if_pos (.inr (.inr (.inr (by rw [← hx3]; exact n3))))]])
    rw [HE.out]
    go_enter Try.func49, Try.ntmps49
    go_wp2_with fail
    refine (D2.out w).mono ?_
    rintro e w' ⟨rfl, rfl⟩
    go_wp2_with fail
    refine (D3.out w).mono ?_
    rintro e w' ⟨rfl, rfl⟩
    go_wp2_with fail
    go_ret2
    exact ⟨rfl, Below.refl _ _⟩
  · have n4 : 0 ≤ hexv s[2].toNat := by omega
    have n5 : 0 ≤ hexv s[3].toNat := by omega
    have HE := Lib.hid (show escR s.data.toList = _ from by unfold escR; rw [show escV s.data.toList = some (UInt8.ofNat (hexv s[2].toNat * (16 : Int) + hexv s[3].toNat).toNat, (4 : Nat)) from by (have hln : s.data.toList.length = s.size := by simp); have hx := HX1.out; have hx2 := HX2.out; have hx3 := HX3.out; have a120 := A120.out; unfold escV; rw [if_neg (by omega), if_neg (by omega), if_neg (by omega), if_neg (by omega), if_neg (by omega), if_neg (by rw [← hx2, ← hx3]; omega), ← hx2, ← hx3]])
    rw [HE.out]
    go_enter Try.func49, Try.ntmps49
    go_wp2_with fail
    refine (D2.out w).mono ?_
    rintro e w' ⟨rfl, rfl⟩
    go_wp2_with fail
    refine (D3.out w).mono ?_
    rintro e w' ⟨rfl, rfl⟩
    go_wp2_with fail
    go_quiet ((exact Calls.quiet_of_same (sdigit_any2 _ (by assumption) _)))
    have HO := Lib.hid (or_of n4 l2 n5 l3)
    go_wp2_with fail
    go_ret2
    exact ⟨by rw [HO.out]; rfl, below_drewN _ _⟩
end Go.Proofs.Ytphfnmjccdejkaa

/- Layer 5: what the program's Unquote has done ahead of a place, in plain lists; a sign as the model writes it. Conditions: none. -/
namespace Go.Proofs.Ytphfnmjccdejkaa
open Go.RowKit
set_option linter.unusedVariables false

theorem enc_eq (r : Nat) : (Utf8.encode (r : Int)).data.toList = Lib.encodeRune (r : Int) := by
  unfold Lib.encodeRune
  by_cases c1 : r < 128
  · have v : Utf8.valid (r : Int) = true := by simp [Utf8.valid]; omega
    rw [Lib.encodeRuneZ_one (by omega) (by omega)]
    simp [Utf8.encode, v, c1]
  by_cases c2 : r < 2048
  · have v : Utf8.valid (r : Int) = true := by simp [Utf8.valid]; omega
    rw [Lib.encodeRuneZ_two (by omega) (by omega)]
    have e0 : (192 + (r : Int) / 64).toNat = 192 + r / 64 := by omega
    have e1 : (128 + (r : Int) % 64).toNat = 128 + r % 64 := by omega
    simp [Utf8.encode, v, c1, c2, e0, e1]
  by_cases cb : (55296 ≤ r ∧ r ≤ 57343) ∨ 1114111 < r
  · have v : Utf8.valid (r : Int) = false := by
      cases hv : Utf8.valid (r : Int) with
      | false => rfl
      | true => simp [Utf8.valid] at hv; omega
    rw [Lib.encodeRuneZ_bad (by omega)]
    simp [Utf8.encode, v, Utf8.runeError]
  have v : Utf8.valid (r : Int) = true := by simp [Utf8.valid]; omega
  by_cases c3 : r < 65536
  · rw [Lib.encodeRuneZ_three (by omega)]
    have e0 : (224 + (r : Int) / 4096).toNat = 224 + r / 4096 := by omega
    have e1 : (128 + (r : Int) / 64 % 64).toNat = 128 + r / 64 % 64 := by omega
    have e2 : (128 + (r : Int) % 64).toNat = 128 + r % 64 := by omega
    simp [Utf8.encode, v, c1, c2, c3, e0, e1, e2]
  · rw [Lib.encodeRuneZ_four (by omega) (by omega)]
    have e0 : (240 + (r : Int) / 262144).toNat = 240 + r / 262144 := by omega
    have e1 : (128 + (r : Int) / 4096 % 64).toNat = 128 + r / 4096 % 64 := by omega
    have e2 : (128 + (r : Int) / 64 % 64).toNat = 128 + r / 64 % 64 := by omega
    have e3 : (128 + (r : Int) % 64).toNat = 128 + r % 64 := by omega
    simp [Utf8.encode, v, c1, c2, c3, e0, e1, e2, e3]
theorem strOf_toList (B : ByteArray) : strOf B.data.toList = B := by apply ByteArray.ext; simp [strOf]
theorem enc_sign {l : List UInt8} (h : sg l ≠ 0) : Utf8.encode (rv l : Int) = strOf (l.take (sg l)) := by
  rw [← encode_sign h, ← enc_eq, strOf_toList]

/-- The bytes within an escape are ASCII. -/
theorem escV_ascii {l : List UInt8} {x : UInt8} {n : Nat} (h : escV l = some (x, n)) : ∀ j, 1 ≤ j → j < n → nb l j < 128 := by
  have hl := escV_len h
  have hx : ∀ c, ¬ hexv c < 0 → c < 128 := fun c hc => by
    unfold hexv at hc
    by_cases a : 48 ≤ c ∧ c ≤ 57
    · omega
    rw [if_neg a] at hc
    by_cases b : 97 ≤ c ∧ c ≤ 102
    · omega
    rw [if_neg b] at hc
    by_cases d : 65 ≤ c ∧ c ≤ 70
    · omega
    rw [if_neg d] at hc
    omega
  unfold escV at h
  by_cases h1 : l.length < 2
  · rw [if_pos h1] at h; cases h
  rw [if_neg h1] at h
  by_cases h2 : nb l 1 = 92 ∨ nb l 1 = 39
  · rw [if_pos h2] at h; cases h; intro j j1 j2; obtain rfl : j = 1 := by omega
    omega
  rw [if_neg h2] at h
  by_cases h3 : nb l 1 = 110
  · rw [if_pos h3] at h; cases h; intro j j1 j2; obtain rfl : j = 1 := by omega
    omega
  rw [if_neg h3] at h
  by_cases h4 : nb l 1 = 116
  · rw [if_pos h4] at h; cases h; intro j j1 j2; obtain rfl : j = 1 := by omega
    omega
  rw [if_neg h4] at h
  by_cases h5 : nb l 1 = 114
  · rw [if_pos h5] at h; cases h; intro j j1 j2; obtain rfl : j = 1 := by omega
    omega
  rw [if_neg h5] at h
  by_cases h6 : l.length < 4 ∨ nb l 1 ≠ 120 ∨ hexv (nb l 2) < 0 ∨ hexv (nb l 3) < 0
  · rw [if_pos h6] at h; cases h
  rw [if_neg h6] at h; cases h
  intro j j1 j2
  have k2 := hx (nb l 2) (fun hh => h6 (.inr (.inr (.inl hh))))
  have k3 := hx (nb l 3) (fun hh => h6 (.inr (.inr (.inr hh))))
  have : j = 1 ∨ j = 2 ∨ j = 3 := by omega
  rcases this with rfl | rfl | rfl
  · omega
  · exact k2
  · exact k3

/-- What is read ahead of place i (what lies ahead of place k is passed over). -/
def DoneU (l : List UInt8) (i k : Nat) (d : List UInt8) : Prop :=
  i ≤ l.length ∧ k ≤ l.length ∧ d.length ≤ max i k ∧ (∀ j, i ≤ j → j < k → nb l j < 128) ∧ uq l = (uq (l.drop (max i k))).map fun p => d ++ p
theorem doneU_zero (l : List UInt8) : DoneU l 0 0 [] := by
  refine ⟨by omega, by omega, by simp, fun j _ h => by omega, ?_⟩
  simp
theorem doneU_pass {l d : List UInt8} {i k : Nat} (h : DoneU l i k d) (hi : i < l.length) (hk : i < k) : sg (l.drop i) = 1 ∧ DoneU l (i + 1) k d := by
  obtain ⟨h1, h2, h3, h4, h5⟩ := h
  refine ⟨sg_one.2 ⟨by simp; omega, by rw [nb_drop, Nat.add_zero]; exact h4 i (by omega) hk⟩, by omega, h2, by rw [show max (i + 1) k = max i k from by omega]; exact h3, fun j a b => h4 j (by omega) b, by rw [show max (i + 1) k = max i k from by omega]; exact h5⟩
theorem doneU_esc {l d : List UInt8} {i k : Nat} (h : DoneU l i k d) (hi : i < l.length) (hk : ¬ i < k) (h92 : nb (l.drop i) 0 = 92) : match escV (l.drop i) with
    | none => uq l = none
    | some (x, n) => sg (l.drop i) = 1 ∧ (n = 2 ∨ n = 4) ∧ i + n ≤ l.length ∧ DoneU l (i + 1) (i + n) (d ++ [x]) := by
  obtain ⟨h1, h2, h3, h4, h5⟩ := h
  have h0 : (l.drop i).length ≠ 0 := by simp; omega
  rw [show max i k = i from by omega, uq_eq (l.drop i), if_neg h0, if_pos h92] at h5
  cases he : escV (l.drop i) with
  | none => rw [he] at h5; exact h5
  | some p =>
    obtain ⟨x, n⟩ := p
    rw [he] at h5
    have hl := escV_len he
    have ha := escV_ascii he
    rw [List.length_drop] at hl
    refine ⟨sg_one.2 ⟨h0, by omega⟩, hl.1, by omega, by omega, by omega, ?_, ?_, ?_⟩
    · rw [show max i k = i from by omega] at h3
      rw [List.length_append, show max (i + 1) (i + n) = i + n from by omega]; simp; omega
    · intro j a b
      have := ha (j - i) (by omega) (by omega)
      rw [nb_drop, show i + (j - i) = j from by omega] at this
      exact this
    · rw [h5, show max (i + 1) (i + n) = i + n from by omega]
      dsimp only
      rw [List.drop_drop]
      cases uq (l.drop (i + n)) with
      | none => rfl
      | some q => simp
theorem doneU_bad {l d : List UInt8} {i k : Nat} (h : DoneU l i k d) (hi : i < l.length) (hk : ¬ i < k) (h92 : nb (l.drop i) 0 ≠ 92) (hb : nb (l.drop i) 0 = 39 ∨ bad (l.drop i)) : uq l = none := by
  obtain ⟨h1, h2, h3, h4, h5⟩ := h
  have h0 : (l.drop i).length ≠ 0 := by simp; omega
  rw [show max i k = i from by omega, uq_eq (l.drop i), if_neg h0, if_neg h92, if_pos hb] at h5
  exact h5
theorem doneU_sign {l d : List UInt8} {i k : Nat} (h : DoneU l i k d) (hi : i < l.length) (hk : ¬ i < k) (h92 : nb (l.drop i) 0 ≠ 92) (hb : ¬ (nb (l.drop i) 0 = 39 ∨ bad (l.drop i))) :
    DoneU l (i + sg (l.drop i)) k (d ++ (l.drop i).take (sg (l.drop i))) := by
  obtain ⟨h1, h2, h3, h4, h5⟩ := h
  have h0 : (l.drop i).length ≠ 0 := by simp; omega
  rw [show max i k = i from by omega, uq_eq (l.drop i), if_neg h0, if_neg h92, if_neg hb] at h5
  have h6 := bad_not (fun hh => hb (.inr hh))
  have h7 := (sg_le (l := l.drop i)).2
  rw [List.length_drop] at h7
  refine ⟨by omega, h2, ?_, fun j a b => by omega, ?_⟩
  · rw [show max i k = i from by omega] at h3
    rw [List.length_append, List.length_take, show max (i + sg (l.drop i)) k = i + sg (l.drop i) from by omega]
    omega
  · rw [h5, show max (i + sg (l.drop i)) k = i + sg (l.drop i) from by omega, List.drop_drop]
    cases uq (l.drop (i + sg (l.drop i))) with
    | none => rfl
    | some q => simp
theorem doneU_end {l d : List UInt8} {i k : Nat} (h : DoneU l i k d) (hi : l.length ≤ i) : uq l = some d := by
  obtain ⟨h1, h2, h3, h4, h5⟩ := h
  rw [h5, show max i k = l.length from by omega, uq_eq (l.drop l.length), if_pos (by simp)]
  simp
/-- By the rune: what is refused, what goes on. -/
theorem rv_39 {l : List UInt8} (h0 : l.length ≠ 0) (h : rv l = 39) : nb l 0 ≠ 92 ∧ (nb l 0 = 39 ∨ bad l) := by
  have := rv_small h0 (by omega); exact ⟨by omega, .inl (by omega)⟩
theorem rv_92 {l : List UInt8} (h0 : l.length ≠ 0) (h : rv l = 92) : nb l 0 = 92 := by
  have := rv_small h0 (by omega); omega
theorem rv_bad {l : List UInt8} (h0 : l.length ≠ 0) (h : rv l < 32 ∨ rv l = 127 ∨ (rv l = 65533 ∧ Lib.hasPrefix l [239, 191, 189] = false)) : nb l 0 ≠ 92 ∧ (nb l 0 = 39 ∨ bad l) := by
  rcases h with h | h | h
  · have := rv_small h0 (by omega); exact ⟨by omega, .inr (.inr (.inl (by omega)))⟩
  · have := rv_small h0 (by omega); exact ⟨by omega, .inr (.inr (.inr (by omega)))⟩
  · have h1 := (bad_iff h0).1 h
    refine ⟨fun hh => ?_, .inr (.inl h1)⟩
    have := sg_one.2 ⟨h0, by omega⟩
    omega
theorem rv_good {l : List UInt8} (h0 : l.length ≠ 0) (h1 : rv l ≠ 92) (h2 : rv l ≠ 39) (h3 : ¬ rv l < 32) (h4 : rv l ≠ 127) (h5 : rv l ≠ 65533 ∨ Lib.hasPrefix l [239, 191, 189] = true) : nb l 0 ≠ 92 ∧ ¬ (nb l 0 = 39 ∨ bad l) := by
  have hs : sg l ≠ 0 := fun e => by
    have := (bad_iff h0).2 e
    rcases h5 with h5 | h5
    · exact h5 this.1
    · rw [h5] at this; cases this.2
  by_cases hb : nb l 0 < 128
  · have h6 := sg_one.2 ⟨h0, hb⟩
    have h7 : rv l = nb l 0 := by unfold rv; rw [if_pos h6]
    refine ⟨by omega, fun h => ?_⟩
    rcases h with h | h | h | h <;> omega
  · refine ⟨by omega, fun h => ?_⟩
    rcases h with h | h | h | h <;> omega
/-- A row that the call owns, in a world that keeps the blocks from its base on. -/
theorem ownsRow_other {w w' : World} {base : Nat} {e : TypeId} {size : Nat} {v : Value} {n : Nat} {xs : List Value} (h : w.ownsRow base e size v n xs) (hk : ∀ k, base ≤ k → w'.heap[k]? = w.heap[k]?) : w'.ownsRow base e size v n xs := by
  refine ⟨h.1, ?_⟩
  rcases h.2 with hn | ⟨g, cap, cur, rfl, hb, hg, rest⟩
  · exact .inl hn
  · exact .inr ⟨g, cap, cur, rfl, hb, (hk g hb).trans hg, rest⟩
theorem ownsRow_below {w w' : World} {base : Nat} {e : TypeId} {size : Nat} {v : Value} {n : Nat} {xs : List Value} (h : w.ownsRow base e size v n xs) (hb : Below w.heap.size w w') : w'.ownsRow base e size v n xs := by
  refine ⟨h.1, ?_⟩
  rcases h.2 with hn | ⟨g, cap, cur, rfl, hbb, hg, rest⟩
  · exact .inl hn
  · exact .inr ⟨g, cap, cur, rfl, hbb, (hb.block g (Array.getElem?_eq_some_iff.1 hg).1).trans hg, rest⟩
end Go.Proofs.Ytphfnmjccdejkaa

/- Layer 5: the contract of the program's Unquote. Written by genS14.py. Conditions: the text is no longer than 2^40. -/
namespace Go.Proofs.Ytphfnmjccdejkaa
open Go.RowKit Go.Shelf
set_option linter.unusedSimpArgs false
set_option linter.unusedVariables false

theorem Try.info5 : (Try.prog.info? 5).map (fun i => (i.zero, i.size, i.bytes)) = some (some (.int .u8 0), 1, 1) := by kernel_rfl
theorem byteCells_snoc (d : List UInt8) (x : UInt8) : Lib.byteCells (d ++ [x]) = Lib.byteCells d ++ [.int .u8 x.toNat] := by simp [Lib.byteCells]
theorem byteCells_one (l : List UInt8) : ∀ u ∈ Lib.byteCells l, u.oneCell' = true := by
  intro u hu
  simp only [Lib.byteCells, List.mem_map] at hu
  obtain ⟨c, _, rfl⟩ := hu
  rfl
/-- The text of bytes that the call owns. -/
theorem conv_own {base : Nat} {w : World} {v : Value} {n : Nat} {d : List UInt8} (h : w.ownsRow base 5 1 v n (Lib.byteCells d)) : (convert 37 9 v).run Try.prog w = .ok (.string (strOf d)) w := by
  have hl := h.1
  rw [Lib.byteCells_length, Nat.mul_one] at hl
  rcases h.2 with ⟨rfl, hx⟩ | ⟨g, cap, cur, rfl, _⟩
  · have : d = [] := List.length_eq_zero_iff.1 (by omega)
    subst this
    exact run_convert_bytes_nil (P := Try.prog) w 37 5 Try.underlying37 Try.underlying5 _ _ 9 Try.underlying9
  · have hc := h.cells (g := g) rfl
    have := run_convert_bytes_arg (P := Try.prog) w 37 5 Try.underlying37 Try.underlying5 g 0 n cap (d.map fun c => (c.toNat : Int)) (by rw [List.length_map]; exact hl) (fun i hi => by
      have hi' : i < d.length := by omega
      have := hc i (.int .u8 d[i].toNat) (by simp [Lib.byteCells, hi'])
      rw [addr_add, Nat.zero_add] at this
      rw [Nat.zero_add, this]
      simp [hi']) 9 Try.underlying9
    rw [nums_of_bytes] at this
    exact this
/-- What Unquote hands back. -/
def unqV (o : Option (List UInt8)) : Value := match o with | none => .tuple #[.string ⟨#[]⟩, .int .i64 1] | some t => .tuple #[.string (strOf t), .int .i64 0]
def unqS (l : List UInt8) : Option (List UInt8) := if 2 ≤ l.length ∧ nb l 0 = 39 ∧ nb l (l.length - 1) = 39 then uq ((l.drop 1).take (l.length - 2)) else none

set_option maxRecDepth 1000000 in
set_option maxHeartbeats 4000000 in
theorem unquote_any (s : ByteArray) (w : World) (hs : s.size ≤ 1099511627776) :
    Calls Try.prog 42 #[.string s] w fun e w' => e = .returned (unqV (unqS s.data.toList)) ∧ Below w.heap.size w w' := by
  have HL : Hid (s.data.toList.length = s.size) := Lib.hid (by simp)
  obtain ⟨R, hR⟩ : ∃ R, unqV (unqS s.data.toList) = R := ⟨_, rfl⟩
  have HR := Lib.hid hR
  rw [hR]
  clear hR
  by_cases h2 : s.size < 2
  · have q2 : (s.size : Int) < 2 := by omega
    have HN : Hid (R = unqV none) := Lib.hid (by rw [← HR.out]; unfold unqS; rw [HL.out, if_neg (by omega)])
    obtain rfl := HN.out
    go_enter Try.func42, Try.ntmps42
    go_wp2_with fail
    go_ret2
    exact ⟨rfl, Below.refl _ _⟩
  have q2 : ¬ (s.size : Int) < 2 := by omega
  have g0 : 0 < s.size := by omega
  have g1 : s.size - 1 < s.size := by omega
  have X0 : Hid (s[0].toNat = nb s.data.toList 0) := Lib.hid (nb_get s 0 g0)
  have X1 : Hid (s[s.size - 1].toNat = nb s.data.toList (s.size - 1)) := Lib.hid (nb_get s (s.size - 1) g1)
  by_cases a0 : s[0].toNat = 39
  rotate_left
  · have q0 : (((s[0].toNat : Nat) : Int) != 39) = true := by simp; omega
    have HN : Hid (R = unqV none) := Lib.hid (by rw [← HR.out]; unfold unqS; rw [HL.out, if_neg (by have := X0.out; omega)])
    obtain rfl := HN.out
    go_enter Try.func42, Try.ntmps42
    go_wp2_with fail
    go_ret2
    exact ⟨rfl, Below.refl _ _⟩
  have q0 : (((s[0].toNat : Nat) : Int) != 39) = false := by simp; omega
  have A0 := Lib.hid a0
  clear a0
  by_cases a1 : s[s.size - 1].toNat = 39
  rotate_left
  · have q1 : (((s[s.size - 1].toNat : Nat) : Int) != 39) = true := by simp; omega
    have HN : Hid (R = unqV none) := Lib.hid (by rw [← HR.out]; unfold unqS; rw [HL.out, if_neg (by have := X1.out; omega)])
    obtain rfl := HN.out
    go_enter Try.func42, Try.ntmps42
    go_wp2_with fail
    go_ret2
    exact ⟨rfl, Below.refl _ _⟩
  have q1 : (((s[s.size - 1].toNat : Nat) : Int) != 39) = false := by simp; omega
  have A1 := Lib.hid a1
  clear a1
  have HRb : Hid (R = unqV (uq (s.extract 1 (s.size - 1)).data.toList)) := Lib.hid (by
    have h := extract_strOf s 1 (s.size - 2) (by omega)
    rw [show 1 + (s.size - 2) = s.size - 1 from by omega] at h
    rw [h, ← HR.out]
    unfold unqS
    rw [HL.out, if_pos ⟨by omega, by rw [← X0.out]; exact A0.out, by rw [← X1.out]; exact A1.out⟩]
    rfl)
  have HSb : Hid ((s.extract 1 (s.size - 1)).size ≤ 1099511627776) := Lib.hid (by rw [ByteArray.size_extract]; omega)
  go_enter Try.func42, Try.ntmps42
  go_wp2_with fail
  obtain ⟨b, hb⟩ : ∃ b, s.extract 1 (s.size - 1) = b := ⟨_, rfl⟩
  rw [hb] at HRb HSb
  simp only [hb]
  clear hb
  have hsb := HSb.out
  obtain ⟨i0, hi, hz0, hz1, hz2⟩ := info_parts Try.info5
  have I0 := Lib.hid hi
  have I1 := Lib.hid hz0
  have I2 := Lib.hid hz1
  have I3 := Lib.hid hz2
  clear hi hz0 hz1 hz2 q0 q1 q2 h2
  go_loopw [4, 5] (fun v k wr => ∃ (pos sk : Nat) (d : List UInt8), k = .int .i64 sk ∧ wr.ownsRow (w.heap.size + 1) 5 1 v d.length (Lib.byteCells d) ∧ wr.heap[w.heap.size]? = some (.stringIter b pos) ∧ Below w.heap.size w wr ∧ Hid (DoneU b.data.toList pos sk d)) (fun _ _ wr => b.size - wr.iterPos w.heap.size)
  case atStart =>
    refine ⟨0, 0, [], rfl, World.ownsRow_nil _ _ _ _, ?_, (Below.refl _ w).alloc (Nat.le_refl _) _, Lib.hid (doneU_zero _)⟩
    have := World.iter_heap w b 0
    simpa using this
  case round =>
    obtain ⟨pos, sk, d, rfl, hown, hit, hbw, hd⟩ := hrel
    have hszr : w.heap.size < wr.heap.size := (Array.getElem?_eq_some_iff.1 hit).1
    have HIT := Lib.hid hit
    have HBW := Lib.hid hbw
    have HO := Lib.hid hown
    clear hit hbw hown
    have hskl : sk ≤ b.size := by have := hd.out.2.1; simpa using this
    have hdl : d.length ≤ b.size := by have h1 := hd.out.2.2.1; have h2 := hd.out.1; simp only [Array.length_toList, ByteArray.size_data] at h2; omega
    by_cases hp : pos < b.size
    · have hnx : ∀ ty, (Instr.next (.pointer (some ⟨w.heap.size, 0, none⟩)) true ty).run Try.prog wr = _ := fun ty => Lib.run_next_any_at wr w.heap.size b pos ty HIT.out hp
      have hln : (b.data.toList.drop pos).length ≠ 0 := by simp; omega
      have hpl : pos < b.data.toList.length := by simpa using hp
      have hdec := decode_spec b pos hp
      have hmv : (if sg (b.data.toList.drop pos) = 0 then 1 else sg (b.data.toList.drop pos)) = stepQ (b.data.toList.drop pos) := rfl
      rw [hmv] at hdec
      have hm1 := stepQ_pos (b.data.toList.drop pos)
      have hm2 := stepQ_le hln
      rw [List.length_drop] at hm2
      simp only [Array.length_toList, ByteArray.size_data] at hm2
      have hrl : rv (b.data.toList.drop pos) ≤ 2147483647 := by have := decode_le b pos; rw [hdec] at this; exact this
      rw [hdec] at hnx
      dsimp only at hnx
      have hex : b.extract pos b.size = strOf (b.data.toList.drop pos) := by
        have h := extract_strOf b pos (b.size - pos) (by omega)
        rw [show pos + (b.size - pos) = b.size from by omega, List.take_of_length_le (by simp)] at h
        exact h
      have HEX := Lib.hid hex
      clear hex hdec
      have UP := Lib.hid (fun hk => doneU_pass hd.out hpl hk)
      have UE := Lib.hid (fun hk h92 => doneU_esc hd.out hpl hk h92)
      have UB := Lib.hid (fun hk h92 hb => doneU_bad hd.out hpl hk h92 hb)
      have US := Lib.hid (fun hk h92 hb => doneU_sign hd.out hpl hk h92 hb)
      have V39 := Lib.hid (rv_39 hln)
      have V92 := Lib.hid (rv_92 hln)
      have VB := Lib.hid (rv_bad hln)
      have VG := Lib.hid (rv_good hln)
      have HMV := Lib.hid hmv
      have HES := Lib.hid (@enc_sign (b.data.toList.drop pos))
      have hsgn : ∀ h : ¬ bad (b.data.toList.drop pos), sg (b.data.toList.drop pos) ≠ 0 := fun h => bad_not h
      have HSG := Lib.hid hsgn
      clear hmv hln hpl hsgn
      generalize hr : rv (b.data.toList.drop pos) = r at *
      clear hr
      generalize hm : stepQ (b.data.toList.drop pos) = m at *
      clear hm
      have HIT2 := Lib.hid (Lib.iterAt_heap wr w.heap.size b pos (pos + m) HIT.out)
      have HBW2 := Lib.hid (Lib.below_iterAt HBW.out (k := w.heap.size) (by omega) b (pos + m))
      have hsz2 : w.heap.size < (wr.iterAt w.heap.size b (pos + m)).heap.size := by rw [Lib.iterAt_size]; omega
      have HO2 : Hid ((wr.iterAt w.heap.size b (pos + m)).ownsRow (w.heap.size + 1) 5 1 u4 d.length (Lib.byteCells d)) := Lib.hid (ownsRow_other HO.out (fun k hk => Lib.iterAt_other wr w.heap.size k b (pos + m) (by omega)))
      generalize hWn : wr.iterAt w.heap.size b (pos + m) = Wn at *
      have HWn := Lib.hid hWn
      clear hWn
      by_cases hk : pos < sk
      · have hk' : (pos : Int) < sk := by omega
        have hu := UP.out hk
        have m1 : m = 1 := by rw [← HMV.out, if_neg (by omega)]; exact hu.1
        have M1 := Lib.hid m1
        have HU := Lib.hid hu.2
        clear m1 hu
        go_wp2_with fail
        go_roundw
        case rel => exact ⟨pos + m, sk, d, rfl, HO2.out, HIT2.out, HBW2.out, Lib.hid (by rw [M1.out]; exact HU.out)⟩
        case measure => simp only [World.iterPos, HIT2.out, HIT.out]; omega
      have hk' : ¬ (pos : Int) < sk := by omega
      by_cases a92 : r = 92
      · have q92 : ((r : Int) == 92) = true := by simp; omega
        have hu := UE.out hk (V92.out a92)
        clear a92
        have HC := Lib.hid (escaped_any (b.extract pos b.size) Wn (by rw [ByteArray.size_extract]; omega))
        rw [HEX.out] at HC
        have hdt : (strOf (b.data.toList.drop pos)).data.toList = b.data.toList.drop pos := rfl
        unfold escR at HC
        rw [hdt] at HC
        clear hdt
        cases he : escV (b.data.toList.drop pos) with
        | none =>
          rw [he] at hu HC
          dsimp only at hu HC
          have HU := Lib.hid hu
          clear hu he
          go_wp2_with fail
          simp only [HEX.out]
          refine HC.out.mono ?_
          rintro e Wa ⟨rfl, hba⟩
          have HBa := Lib.hid hba
          clear hba
          go_wp2_with fail
          go_ret2
          exact ⟨by rw [HRb.out, HU.out]; rfl, HBW2.out.trans (HBa.out.mono (by omega))⟩
        | some p =>
          obtain ⟨x, n⟩ := p
          rw [he] at hu HC
          dsimp only at hu HC
          have m1 : m = 1 := by rw [← HMV.out, if_neg (by omega)]; exact hu.1
          have M1 := Lib.hid m1
          have HU := Lib.hid hu.2.2.2
          have hn : n = 2 ∨ n = 4 := hu.2.1
          have hnl : pos + n ≤ b.size := by have := hu.2.2.1; simpa using this
          have qn : ((n : Int) == 0) = false := by simp; omega
          clear hu he m1
          have HN := Lib.hid hn
          clear hn
          go_wp2_with fail
          simp only [HEX.out]
          refine HC.out.mono ?_
          rintro e Wa ⟨rfl, hba⟩
          have HBa := Lib.hid hba
          clear hba
          have hza : w.heap.size < Wa.heap.size := by have := HBa.out.size; omega
          have HOa : Hid (Wa.ownsRow (w.heap.size + 1) 5 1 u4 d.length (Lib.byteCells d)) := Lib.hid (ownsRow_below HO2.out HBa.out)
          have HITa : Hid (Wa.heap[w.heap.size]? = some (.stringIter b (pos + m))) := Lib.hid ((HBa.out.block _ hsz2).trans HIT2.out)
          go_wp2_with (at_builtin; refine wpList_append_own _ rfl _ _ 37 rfl (w.heap.size + 1) 5 i0 (.int .u8 0) 1 1 Try.underlying37 I0.out I1.out I2.out I3.out rfl (by omega) u4 d.length (Lib.byteCells d) rfl (HOa.out.alloc _) ⟨Wa.heap.size, 0, none⟩ 1 1 [.int .u8 x.toNat] rfl rfl (World.news_of_block (cs := #[.int .u8 x.toNat]) (t := 5) (fr := (0, 0)) (heap_alloc_new _ _)) (by simp [Value.oneCell']) (by unfold maxLen; omega) (by omega) (by simp; omega) ?_)
          intro v1 w1 hown1 hgrow _
          rw [← byteCells_snoc] at hown1
          have hr1 := fun k hk => (HOa.out.lt k hk).1
          have HO1 := Lib.hid hown1
          have HG := Lib.hid hgrow
          have HR1 := Lib.hid hr1
          clear hown1 hgrow hr1
          have hz1 : w.heap.size < w1.heap.size := by have := HG.out.size; simp at this; omega
          have HIT1 : Hid (w1.heap[w.heap.size]? = some (.stringIter b (pos + m))) := Lib.hid (by
            rw [HG.out.block _ (by simp; omega) (fun e => by have := HR1.out _ e.symm; omega)]
            rw [show (Wa.alloc (.cells #[.int .u8 x.toNat] 5)).heap[w.heap.size]? = Wa.heap[w.heap.size]? from Below.heap_alloc _ _ _ hza]
            exact HITa.out)
          have HB1 : Hid (Below w.heap.size w w1) := Lib.hid (Below.grown ((HBW2.out.trans (HBa.out.mono (by omega))).alloc (by omega) _) HG.out (by simp; omega) (fun k hk => by have := HR1.out _ hk; omega))
          go_wp2_with fail
          go_roundw
          case rel => exact ⟨pos + m, pos + n, d ++ [x], by go_num, by simpa using HO1.out, HIT1.out, HB1.out, Lib.hid (by rw [M1.out]; exact HU.out)⟩
          case measure => simp only [World.iterPos, HIT1.out, HIT.out]; omega
      have q92 : ((r : Int) == 92) = false := by simp; omega
      by_cases a39 : r = 39
      · have q39 : ((r : Int) == 39) = true := by simp; omega
        have HU := Lib.hid (UB.out hk (V39.out a39).1 (V39.out a39).2)
        clear a39
        go_wp2_with fail
        go_ret2
        exact ⟨by rw [HRb.out, HU.out]; rfl, HBW2.out⟩
      have q39 : ((r : Int) == 39) = false := by simp; omega
      by_cases b32 : r < 32
      · have q32 : (r : Int) < 32 := by omega
        have HU := Lib.hid (UB.out hk (VB.out (.inl b32)).1 (VB.out (.inl b32)).2)
        go_wp2_with fail
        go_ret2
        exact ⟨by rw [HRb.out, HU.out]; rfl, HBW2.out⟩
      have q32 : ¬ (r : Int) < 32 := by omega
      by_cases a127 : r = 127
      · have q127 : ((r : Int) == 127) = true := by simp; omega
        have HU := Lib.hid (UB.out hk (VB.out (.inr (.inl a127))).1 (VB.out (.inr (.inl a127))).2)
        clear a127
        go_wp2_with fail
        go_ret2
        exact ⟨by rw [HRb.out, HU.out]; rfl, HBW2.out⟩
      have q127 : ((r : Int) == 127) = false := by simp; omega
      by_cases a6 : r = 65533
      · have q6 : ((r : Int) == 65533) = true := by simp; omega
        by_cases hpf : Lib.hasPrefix (b.data.toList.drop pos) [239, 191, 189] = false
        · have tt : True := trivial
          have hpx : Lib.hasPrefix (b.extract pos b.size).data.toList [239, 191, 189] = false := by rw [HEX.out, ← hpf]; rfl
          have HPF := Lib.hid (hasPrefix_any (b.extract pos b.size) false Wn hpx)
          clear hpx
          have HU := Lib.hid (UB.out hk (VB.out (.inr (.inr ⟨a6, hpf⟩))).1 (VB.out (.inr (.inr ⟨a6, hpf⟩))).2)
          clear a6 hpf
          go_wp2_with fail
          refine HPF.out.mono ?_
          rintro e w8 ⟨rfl, rfl⟩
          go_wp2_with fail
          go_ret2
          exact ⟨by rw [HRb.out, HU.out]; rfl, HBW2.out⟩
        have hpf : Lib.hasPrefix (b.data.toList.drop pos) [239, 191, 189] = true := by simpa using hpf
        have hpx : Lib.hasPrefix (b.extract pos b.size).data.toList [239, 191, 189] = true := by rw [HEX.out, ← hpf]; rfl
        have HPF := Lib.hid (hasPrefix_any (b.extract pos b.size) true Wn hpx)
        clear hpx
        have hg := VG.out a92 a39 b32 a127 (.inr hpf)
        have hs1 := HSG.out (fun h => hg.2 (.inr h))
        have hm1' : m = sg (b.data.toList.drop pos) := by rw [← HMV.out, if_neg hs1]
        have HU := Lib.hid (US.out hk hg.1 hg.2)
        have HEN := Lib.hid (HES.out hs1)
        have hsl := sg_le (l := b.data.toList.drop pos)
        have hsz3 : (Utf8.encode (r : Int)).size ≤ 4 := by rw [HEN.out, strOf_size, List.length_take]; omega
        have HM := Lib.hid hm1'
        have HCC : Hid (Lib.strCells (Utf8.encode (r : Int)) = Lib.byteCells ((b.data.toList.drop pos).take (sg (b.data.toList.drop pos)))) := Lib.hid (by rw [HEN.out]; rfl)
        have HCL : Hid ((Utf8.encode (r : Int)).size = ((b.data.toList.drop pos).take (sg (b.data.toList.drop pos))).length) := Lib.hid (by rw [HEN.out, strOf_size])
        generalize (b.data.toList.drop pos).take (sg (b.data.toList.drop pos)) = S at *
        clear hg hs1 hm1' hsl
        clear a6 hpf
        go_wp2_with fail
        refine HPF.out.mono ?_
        rintro e w8 ⟨rfl, rfl⟩
        go_wp2_with (at_builtin; refine Lib.wpList_append_own_string _ rfl _ _ 37 9 rfl (w.heap.size + 1) 5 i0 Try.underlying37 Try.underlying9 I0.out I1.out I2.out I3.out u4 d.length (Lib.byteCells d) rfl HO2.out _ rfl (by unfold maxLen; omega) (by omega) (by omega) ?_)
        intro v1 w1 hown1 hgrow _
        rw [HCC.out, HCL.out] at hown1
        have HO1 : Hid (w1.ownsRow (w.heap.size + 1) 5 1 v1 (d ++ S).length (Lib.byteCells (d ++ S))) := Lib.hid (by rw [List.length_append]; simpa [Lib.byteCells] using hown1)
        have HG := Lib.hid hgrow
        have hr1 := fun k hk => (HO2.out.lt k hk).1
        have HR1 := Lib.hid hr1
        clear hown1 hgrow hr1
        have hz1 : w.heap.size < w1.heap.size := by have := HG.out.size; omega
        have HIT1 : Hid (w1.heap[w.heap.size]? = some (.stringIter b (pos + m))) := Lib.hid ((HG.out.block _ (by omega) (fun e => by have := HR1.out _ e.symm; omega)).trans HIT2.out)
        have HB1 : Hid (Below w.heap.size w w1) := Lib.hid (Below.grown HBW2.out HG.out (by omega) (fun k hk => by have := HR1.out _ hk; omega))
        go_wp2_with fail
        go_roundw
        case rel => exact ⟨pos + m, sk, d ++ S, rfl, HO1.out, HIT1.out, HB1.out, Lib.hid (by rw [HM.out]; exact HU.out)⟩
        case measure => simp only [World.iterPos, HIT1.out, HIT.out]; omega
      have q6 : ((r : Int) == 65533) = false := by simp; omega
      have hg := VG.out a92 a39 b32 a127 (.inl a6)
      have hs1 := HSG.out (fun h => hg.2 (.inr h))
      have hm1' : m = sg (b.data.toList.drop pos) := by rw [← HMV.out, if_neg hs1]
      have HU := Lib.hid (US.out hk hg.1 hg.2)
      have HEN := Lib.hid (HES.out hs1)
      have hsl := sg_le (l := b.data.toList.drop pos)
      have hsz3 : (Utf8.encode (r : Int)).size ≤ 4 := by rw [HEN.out, strOf_size, List.length_take]; omega
      have HM := Lib.hid hm1'
      have HCC : Hid (Lib.strCells (Utf8.encode (r : Int)) = Lib.byteCells ((b.data.toList.drop pos).take (sg (b.data.toList.drop pos)))) := Lib.hid (by rw [HEN.out]; rfl)
      have HCL : Hid ((Utf8.encode (r : Int)).size = ((b.data.toList.drop pos).take (sg (b.data.toList.drop pos))).length) := Lib.hid (by rw [HEN.out, strOf_size])
      generalize (b.data.toList.drop pos).take (sg (b.data.toList.drop pos)) = S at *
      clear hg hs1 hm1' hsl
      go_wp2_with (at_builtin; refine Lib.wpList_append_own_string _ rfl _ _ 37 9 rfl (w.heap.size + 1) 5 i0 Try.underlying37 Try.underlying9 I0.out I1.out I2.out I3.out u4 d.length (Lib.byteCells d) rfl HO2.out _ rfl (by unfold maxLen; omega) (by omega) (by omega) ?_)
      intro v1 w1 hown1 hgrow _
      rw [HCC.out, HCL.out] at hown1
      have HO1 : Hid (w1.ownsRow (w.heap.size + 1) 5 1 v1 (d ++ S).length (Lib.byteCells (d ++ S))) := Lib.hid (by rw [List.length_append]; simpa [Lib.byteCells] using hown1)
      have HG := Lib.hid hgrow
      have hr1 := fun k hk => (HO2.out.lt k hk).1
      have HR1 := Lib.hid hr1
      clear hown1 hgrow hr1
      have hz1 : w.heap.size < w1.heap.size := by have := HG.out.size; omega
      have HIT1 : Hid (w1.heap[w.heap.size]? = some (.stringIter b (pos + m))) := Lib.hid ((HG.out.block _ (by omega) (fun e => by have := HR1.out _ e.symm; omega)).trans HIT2.out)
      have HB1 : Hid (Below w.heap.size w w1) := Lib.hid (Below.grown HBW2.out HG.out (by omega) (fun k hk => by have := HR1.out _ hk; omega))
      go_wp2_with fail
      go_roundw
      case rel => exact ⟨pos + m, sk, d ++ S, rfl, HO1.out, HIT1.out, HB1.out, Lib.hid (by rw [HM.out]; exact HU.out)⟩
      case measure => simp only [World.iterPos, HIT1.out, HIT.out]; omega
    · have hnx : ∀ ty, (Instr.next (.pointer (some ⟨w.heap.size, 0, none⟩)) true ty).run Try.prog wr = _ := fun ty => Lib.run_next_end_at wr w.heap.size b pos ty HIT.out hp
      have HE := Lib.hid (doneU_end hd.out (by simp; omega))
      have hcv := conv_own HO.out
      go_wp2_with fail
      go_ret2
      exact ⟨by rw [HRb.out, HE.out]; rfl, HBW.out⟩
end Go.Proofs.Ytphfnmjccdejkaa

/- Layer 5: what the reference's Quoted has done ahead of a place, in plain lists. Conditions: none. -/
namespace Go.Proofs.Ytphfnmjccdejkaa
open Go.RowKit
set_option linter.unusedVariables false

def DoneD (l : List UInt8) (a i : Nat) (d : List UInt8) : Prop := a ≤ i ∧ i ≤ l.length ∧ d.length ≤ i ∧ qd (l.drop a) = (qd (l.drop i)).map fun p => (d ++ p.1, p.2)
theorem doneD_zero (l : List UInt8) (a : Nat) (h : a ≤ l.length) : DoneD l a a [] := by
  refine ⟨by omega, h, by simp, ?_⟩
  cases qd (l.drop a) <;> simp
theorem doneD_end {l d : List UInt8} {a i : Nat} (h : DoneD l a i d) (hi : l.length ≤ i) : qd (l.drop a) = none := by
  obtain ⟨h1, h2, h3, h4⟩ := h
  rw [h4, qd_eq (l.drop i), if_pos (by simp; omega)]; rfl
theorem doneD_quote {l d : List UInt8} {a i : Nat} (h : DoneD l a i d) (hi : i < l.length) (h39 : nb (l.drop i) 0 = 39) : qd (l.drop a) = some (d, l.drop (i + 1)) := by
  obtain ⟨h1, h2, h3, h4⟩ := h
  rw [h4, qd_eq (l.drop i), if_neg (by simp; omega), if_pos h39, List.drop_drop]; simp
theorem doneD_bad {l d : List UInt8} {a i : Nat} (h : DoneD l a i d) (hi : i < l.length) (h39 : nb (l.drop i) 0 ≠ 39) (hb : bad (l.drop i)) : qd (l.drop a) = none := by
  obtain ⟨h1, h2, h3, h4⟩ := h
  rw [h4, qd_eq (l.drop i), if_neg (by simp; omega), if_neg h39, if_pos hb]; rfl
theorem doneD_sign {l d : List UInt8} {a i : Nat} (h : DoneD l a i d) (hi : i < l.length) (h39 : nb (l.drop i) 0 ≠ 39) (hb : ¬ bad (l.drop i)) (h92 : nb (l.drop i) 0 ≠ 92) :
    DoneD l a (i + sg (l.drop i)) (d ++ (l.drop i).take (sg (l.drop i))) := by
  obtain ⟨h1, h2, h3, h4⟩ := h
  have h6 := bad_not hb
  have h7 := (sg_le (l := l.drop i)).2
  rw [List.length_drop] at h7
  refine ⟨by omega, by omega, by rw [List.length_append, List.length_take]; omega, ?_⟩
  rw [h4, qd_eq (l.drop i), if_neg (by simp; omega), if_neg h39, if_neg hb, if_neg h92, List.drop_drop]
  cases qd (l.drop (i + sg (l.drop i))) with
  | none => rfl
  | some q => simp
theorem doneD_escN {l d : List UInt8} {a i : Nat} (h : DoneD l a i d) (hi : i < l.length) (h39 : nb (l.drop i) 0 ≠ 39) (hb : ¬ bad (l.drop i)) (h92 : nb (l.drop i) 0 = 92) (he : escV (l.drop i) = none) : qd (l.drop a) = none := by
  obtain ⟨h1, h2, h3, h4⟩ := h
  rw [h4, qd_eq (l.drop i), if_neg (by simp; omega), if_neg h39, if_neg hb, if_pos h92, he]; rfl
theorem doneD_escS {l d : List UInt8} {a i : Nat} (h : DoneD l a i d) (hi : i < l.length) (h39 : nb (l.drop i) 0 ≠ 39) (hb : ¬ bad (l.drop i)) (h92 : nb (l.drop i) 0 = 92) {x : UInt8} {n : Nat} (he : escV (l.drop i) = some (x, n)) :
    DoneD l a (i + n) (d ++ [x]) := by
  obtain ⟨h1, h2, h3, h4⟩ := h
  have hl := escV_len he
  rw [List.length_drop] at hl
  refine ⟨by omega, by omega, by rw [List.length_append]; simp; omega, ?_⟩
  rw [h4, qd_eq (l.drop i), if_neg (by simp; omega), if_neg h39, if_neg hb, if_pos h92, he]
  dsimp only
  rw [List.drop_drop]
  cases qd (l.drop (i + n)) with
  | none => rfl
  | some q => simp
theorem escV_short {l : List UInt8} (h : l.length < 2) : escV l = none := by unfold escV; rw [if_pos h]
theorem escV_q {l : List UInt8} (h : ¬ l.length < 2) (h1 : nb l 1 = 92 ∨ nb l 1 = 39) : escV l = some (UInt8.ofNat (nb l 1), 2) := by unfold escV; rw [if_neg h, if_pos h1]
theorem escV_n {l : List UInt8} (h : ¬ l.length < 2) (h1 : nb l 1 = 110) : escV l = some (10, 2) := by unfold escV; rw [if_neg h, if_neg (by omega), if_pos h1]
theorem escV_t {l : List UInt8} (h : ¬ l.length < 2) (h1 : nb l 1 = 116) : escV l = some (9, 2) := by unfold escV; rw [if_neg h, if_neg (by omega), if_neg (by omega), if_pos h1]
theorem escV_r {l : List UInt8} (h : ¬ l.length < 2) (h1 : nb l 1 = 114) : escV l = some (13, 2) := by unfold escV; rw [if_neg h, if_neg (by omega), if_neg (by omega), if_neg (by omega), if_pos h1]
theorem escV_no {l : List UInt8} (h : ¬ l.length < 2) (h1 : nb l 1 ≠ 92) (h2 : nb l 1 ≠ 39) (h3 : nb l 1 ≠ 110) (h4 : nb l 1 ≠ 116) (h5 : nb l 1 ≠ 114) (h6 : l.length < 4 ∨ nb l 1 ≠ 120 ∨ hexv (nb l 2) < 0 ∨ hexv (nb l 3) < 0) : escV l = none := by
  unfold escV; rw [if_neg h, if_neg (by omega), if_neg h3, if_neg h4, if_neg h5, if_pos h6]
theorem escV_x {l : List UInt8} (h : ¬ l.length < 4) (h1 : nb l 1 = 120) (h2 : ¬ hexv (nb l 2) < 0) (h3 : ¬ hexv (nb l 3) < 0) : escV l = some (UInt8.ofNat (hexv (nb l 2) * (16 : Int) + hexv (nb l 3)).toNat, 4) := by
  unfold escV; rw [if_neg (by omega), if_neg (by omega), if_neg (by omega), if_neg (by omega), if_neg (by omega), if_neg (by omega)]
/-- What Quoted hands back. -/
def qdV (n : Nat) (o : Option (List UInt8 × List UInt8)) : Value := match o with
  | none => .tuple #[.string ⟨#[]⟩, .int .i64 0, .bool false]
  | some p => .tuple #[.string (strOf p.1), .int .i64 ((n - p.2.length : Nat) : Int), .bool true]
def qdS (l : List UInt8) (at_ : Nat) : Option (List UInt8 × List UInt8) := if at_ < l.length ∧ nb l at_ = 39 then qd (l.drop (at_ + 1)) else none
end Go.Proofs.Ytphfnmjccdejkaa

/- Layer 5: the two ways of reading a text in quotes come to one, in plain lists. Conditions: none. -/
namespace Go.Proofs.Ytphfnmjccdejkaa
open Go.RowKit
set_option linter.unusedVariables false

theorem nb_snoc (m : List UInt8) (k : Nat) (h : k < m.length) : nb (m ++ [39]) k = nb m k := by unfold nb; rw [List.getElem?_append_left h]
theorem nb_snoc_end (m : List UInt8) : nb (m ++ [39]) m.length = 39 := by unfold nb; simp
theorem nb_past (m : List UInt8) (k : Nat) (h : m.length ≤ k) : nb m k = 0 := by unfold nb; rw [List.getElem?_eq_none h]; rfl
theorem tl_snoc (m : List UInt8) (k : Nat) : tl (m ++ [39]) k = tl m k := by
  rw [Bool.eq_iff_iff, tl_true, tl_true, List.length_append, List.length_singleton]
  by_cases h : k < m.length
  · rw [nb_snoc m k h]; omega
  · by_cases h2 : k = m.length
    · subst h2; rw [nb_snoc_end]; omega
    · omega
theorem sg_snoc (m : List UInt8) (h : m.length ≠ 0) : sg (m ++ [39]) = sg m := by
  unfold sg
  rw [tl_snoc, tl_snoc, tl_snoc, nb_snoc m 0 (by omega), if_neg (by simp), if_neg h]
  by_cases h0 : nb m 0 < 128
  · rw [if_pos h0, if_pos h0]
  rw [if_neg h0, if_neg h0]
  by_cases h1 : nb m 0 < 194 ∨ 244 < nb m 0 ∨ tl m 1 = false
  · rw [if_pos h1, if_pos h1]
  rw [if_neg h1, if_neg h1]
  have ht : tl m 1 = true := by
    cases hh : tl m 1 with
    | true => rfl
    | false => exact absurd (.inr (.inr hh)) h1
  rw [nb_snoc m 1 (tl_true.1 ht).1]
theorem bad_snoc (m : List UInt8) (h : m.length ≠ 0) : bad (m ++ [39]) ↔ bad m := by
  unfold bad
  rw [sg_snoc m h, nb_snoc m 0 (by omega)]
theorem hexv_39 : hexv 39 < 0 := by decide
theorem escV_snoc (m : List UInt8) (h : 2 ≤ m.length) : escV (m ++ [39]) = escV m := by
  have h2 : ¬ (m ++ [39]).length < 2 := by rw [List.length_append]; omega
  unfold escV
  rw [if_neg h2, if_neg (show ¬ m.length < 2 from by omega), nb_snoc m 1 (by omega)]
  by_cases h4 : m.length < 4
  · have hc : ((m ++ [39]).length < 4 ∨ nb m 1 ≠ 120 ∨ hexv (nb (m ++ [39]) 2) < 0 ∨ hexv (nb (m ++ [39]) 3) < 0) := by
      by_cases h3 : m.length = 2
      · exact .inl (by rw [List.length_append, h3]; decide)
      · have h3' : m.length = 3 := by omega
        have := nb_snoc_end m
        rw [h3'] at this
        exact .inr (.inr (.inr (by rw [this]; exact hexv_39)))
    rw [if_pos hc, if_pos (show m.length < 4 ∨ _ from .inl h4)]
  · rw [nb_snoc m 2 (by omega), nb_snoc m 3 (by omega)]
    have h5 : ¬ (m ++ [39]).length < 4 := by rw [List.length_append]; omega
    simp only [h4, h5, false_or]
/-- Read to the very end. -/
def fin_ (o : Option (List UInt8 × List UInt8)) : Option (List UInt8) := match o with | some (t, []) => some t | _ => none
theorem fin_map (p : List UInt8) (o : Option (List UInt8 × List UInt8)) : fin_ (o.map fun q => (p ++ q.1, q.2)) = (fin_ o).map fun q => p ++ q := by
  cases o with
  | none => rfl
  | some q =>
    obtain ⟨t, r⟩ := q
    cases r <;> rfl
theorem fin_qd : ∀ (k : Nat) (m : List UInt8), m.length = k → fin_ (qd (m ++ [39])) = uq m := by
  intro k
  induction k using Nat.strongRecOn with
  | _ k ih =>
    intro m hm
    by_cases h0 : m.length = 0
    · rw [uq_eq, if_pos h0, qd_eq, if_neg (by simp), if_pos (by have := nb_snoc_end m; rw [h0] at this; exact this)]
      have : m = [] := List.length_eq_zero_iff.1 h0
      subst this
      rfl
    have hstep : ∀ n, 1 ≤ n → n ≤ m.length → fin_ (qd ((m ++ [39]).drop n)) = uq (m.drop n) := fun n h1 h2 => by
      rw [List.drop_append_of_le_length h2]
      exact ih (m.drop n).length (by rw [List.length_drop]; omega) (m.drop n) rfl
    rw [uq_eq, if_neg h0, qd_eq, if_neg (by simp), nb_snoc m 0 (by omega), sg_snoc m h0]
    by_cases h1 : nb m 0 = 39
    · rw [if_pos h1, if_neg (by omega), if_pos (.inl h1)]
      rw [List.drop_append_of_le_length (by omega)]
      cases hd : m.drop 1 <;> rfl
    rw [if_neg h1]
    by_cases h2 : bad m
    · have h92 : nb m 0 ≠ 92 ∨ nb m 0 = 92 := by omega
      rw [if_pos ((bad_snoc m h0).2 h2)]
      by_cases h3 : nb m 0 = 92
      · exfalso
        have := sg_one.2 ⟨h0, by omega⟩
        rcases h2 with h2 | h2 | h2 <;> omega
      · rw [if_neg h3, if_pos (.inr h2)]; rfl
    rw [if_neg (fun h => h2 ((bad_snoc m h0).1 h))]
    by_cases h3 : nb m 0 = 92
    · rw [if_pos h3, if_pos h3]
      by_cases h4 : m.length = 1
      · have e2 : escV m = none := escV_short (by omega)
        have e1 : escV (m ++ [39]) = some (UInt8.ofNat 39, 2) := by
          have hn : nb (m ++ [39]) 1 = 39 := by have := nb_snoc_end m; rw [h4] at this; exact this
          rw [escV_q (by rw [List.length_append]; simp; omega) (.inr hn), hn]
        rw [e1, e2]
        dsimp only
        have e3 : qd ((m ++ [39]).drop 2) = none := by rw [qd_eq, if_pos (by rw [List.length_drop, List.length_append, h4]; rfl)]
        show fin_ (Option.map _ (qd ((m ++ [39]).drop 2))) = none
        rw [e3]
        rfl
      · rw [escV_snoc m (by omega)]
        cases he : escV m with
        | none => rfl
        | some p =>
          obtain ⟨x, n⟩ := p
          have hl := escV_len he
          dsimp only
          have := fin_map [x] (qd ((m ++ [39]).drop n))
          rw [hstep n (by omega) hl.2] at this
          exact this
    · rw [if_neg h3, if_neg h3, if_neg (fun h => h.elim h1 h2)]
      have h5 := bad_not h2
      have h6 := (sg_le (l := m)).2
      rw [List.take_append_of_le_length h6, fin_map, hstep (sg m) (by omega) h6]
theorem qd_last : ∀ (k : Nat) (l : List UInt8), l.length = k → ∀ t r, qd l = some (t, r) → ∃ j, j < l.length ∧ nb l j = 39 ∧ r = l.drop (j + 1) := by
  intro k
  induction k using Nat.strongRecOn with
  | _ k ih =>
    intro l hl t r h
    rw [qd_eq] at h
    by_cases h0 : l.length = 0
    · rw [if_pos h0] at h; cases h
    rw [if_neg h0] at h
    have key : ∀ (n : Nat) (p : List UInt8), 1 ≤ n → n ≤ l.length → (qd (l.drop n)).map (fun q => (p ++ q.1, q.2)) = some (t, r) → ∃ j, j < l.length ∧ nb l j = 39 ∧ r = l.drop (j + 1) := fun n p h1 h2 h3 => by
      cases hq : qd (l.drop n) with
      | none => rw [hq] at h3; cases h3
      | some q =>
        obtain ⟨t', r'⟩ := q
        rw [hq] at h3
        obtain ⟨j, j1, j2, j3⟩ := ih (l.drop n).length (by rw [List.length_drop]; omega) (l.drop n) rfl t' r' hq
        rw [List.length_drop] at j1
        rw [nb_drop] at j2
        rw [List.drop_drop] at j3
        cases h3
        exact ⟨n + j, by omega, j2, by rw [j3]; congr 1⟩
    by_cases h1 : nb l 0 = 39
    · rw [if_pos h1] at h
      cases h
      exact ⟨0, by omega, h1, rfl⟩
    rw [if_neg h1] at h
    by_cases h2 : bad l
    · rw [if_pos h2] at h; cases h
    rw [if_neg h2] at h
    by_cases h3 : nb l 0 = 92
    · rw [if_pos h3] at h
      cases he : escV l with
      | none => rw [he] at h; cases h
      | some p =>
        obtain ⟨x, n⟩ := p
        rw [he] at h
        have hl := escV_len he
        exact key n [x] (by omega) hl.2 h
    · rw [if_neg h3] at h
      exact key (sg l) (l.take (sg l)) (by have := bad_not h2; omega) sg_le.2 h
theorem fin_some {o : Option (List UInt8 × List UInt8)} {t : List UInt8} (h : fin_ o = some t) : o = some (t, []) := by
  unfold fin_ at h
  split at h
  · cases h; rfl
  · cases h
/-- The reference's way is the program's. -/
theorem unq_same (l : List UInt8) : fin_ (qdS l 0) = unqS l := by
  unfold qdS unqS
  by_cases h0 : 0 < l.length ∧ nb l 0 = 39
  · rw [if_pos h0]
    by_cases h1 : 2 ≤ l.length ∧ nb l 0 = 39 ∧ nb l (l.length - 1) = 39
    · rw [if_pos h1]
      have hm : l.drop 1 = (l.drop 1).take (l.length - 2) ++ [39] := by
        apply List.ext_getElem?
        intro j
        by_cases hj : j < l.length - 2
        · rw [List.getElem?_append_left (by rw [List.length_take, List.length_drop]; omega), List.getElem?_take, if_pos hj]
        · rw [List.getElem?_append_right (by rw [List.length_take, List.length_drop]; omega), List.length_take, List.length_drop, List.getElem?_drop]
          by_cases hj2 : j = l.length - 2
          · subst hj2
            rw [show l.length - 2 - min (l.length - 2) (l.length - 1) = 0 from by omega]
            have h3 := h1.2.2
            unfold nb at h3
            rw [show 1 + (l.length - 2) = l.length - 1 from by omega]
            rw [List.getElem?_eq_getElem (by omega)] at h3 ⊢
            simp at h3
            have h39 : l[l.length - 1] = 39 := UInt8.toNat_inj.1 h3
            rw [h39]; rfl
          · rw [List.getElem?_eq_none (by omega), List.getElem?_eq_none (by simp; omega)]
      rw [show 0 + 1 = 1 from rfl]
      conv => lhs; rw [hm]
      exact fin_qd _ _ rfl
    · rw [if_neg h1]
      cases hf : fin_ (qd (l.drop (0 + 1))) with
      | none => rfl
      | some t =>
        exfalso
        obtain ⟨j, j1, j2, j3⟩ := qd_last _ _ rfl t [] (fin_some hf)
        rw [List.length_drop] at j1
        have h4 : ((l.drop (0 + 1)).drop (j + 1)).length = 0 := by rw [← j3]; rfl
        rw [List.length_drop, List.length_drop] at h4
        rw [nb_drop] at j2
        exact h1 ⟨by omega, h0.2, by rw [show l.length - 1 = 0 + 1 + j from by omega]; exact j2⟩
  · rw [if_neg h0, if_neg (fun h => h0 ⟨by omega, h.2.1⟩)]
    rfl
end Go.Proofs.Ytphfnmjccdejkaa

/- Layer 5: the contracts of Name and Key, the program's and the reference's. Written by genS19.py. Conditions: the text is no longer than 2^40. -/
namespace Go.Proofs.Ytphfnmjccdejkaa
open Go.RowKit Go.Shelf
set_option linter.unusedSimpArgs false
set_option linter.unusedVariables false

theorem toList_data (s : ByteArray) : s.toList = s.data.toList := by
  have h := strOf_list s.data.toList
  rwa [strOf_toList] at h
def nchar (c : Nat) : Bool := letter c || digt c
def nameB (l : List UInt8) : Bool := decide (1 ≤ l.length ∧ l.length ≤ 64 ∧ letter (nb l 0) = true ∧ ∀ k, k < l.length → nchar (nb l k) = true)
/-- What is seen ahead of place i. -/
def DoneN (l : List UInt8) (i : Nat) : Prop := i ≤ l.length ∧ (0 < i → letter (nb l 0) = true) ∧ ∀ k, k < i → nchar (nb l k) = true
theorem doneN_zero (l : List UInt8) : DoneN l 0 := ⟨by omega, fun h => by omega, fun k h => by omega⟩
theorem doneN_step {l : List UInt8} {i : Nat} (h : DoneN l i) (hi : i < l.length) (h0 : i = 0 → letter (nb l i) = true) (hc : nchar (nb l i) = true) : DoneN l (i + 1) := by
  obtain ⟨h1, h2, h3⟩ := h
  refine ⟨by omega, fun _ => ?_, fun k hk => ?_⟩
  · by_cases hz : i = 0
    · subst hz; exact h0 rfl
    · exact h2 (by omega)
  · by_cases hk2 : k = i
    · subst hk2; exact hc
    · exact h3 k (by omega)
theorem doneN_end {l : List UInt8} {i : Nat} (h : DoneN l i) (hi : l.length ≤ i) : nameB l = decide (1 ≤ l.length ∧ l.length ≤ 64) := by
  obtain ⟨h1, h2, h3⟩ := h
  unfold nameB
  apply decide_eq_decide.2
  constructor
  · rintro ⟨a, b, _⟩; exact ⟨a, b⟩
  · rintro ⟨a, b⟩; exact ⟨a, b, h2 (by omega), fun k hk => h3 k (by omega)⟩
theorem nameB_no {l : List UInt8} {i : Nat} (hi : i < l.length) (h : nchar (nb l i) = false ∨ (i = 0 ∧ letter (nb l i) = false)) : nameB l = false := by
  apply decide_eq_false
  rintro ⟨_, _, h3, h4⟩
  rcases h with h | ⟨rfl, h⟩
  · rw [h4 i hi] at h; cases h
  · rw [h3] at h; cases h
theorem letter_nchar {c : Nat} (h : letter c = true) : nchar c = true := by unfold nchar; rw [h]; rfl
theorem digt_nchar {c : Nat} (h : digt c = true) : nchar c = true := by unfold nchar; rw [h, Bool.or_true]
theorem nchar_no {c : Nat} (h : letter c = false) (k : digt c = false) : nchar c = false := by unfold nchar; rw [h, k]; rfl

set_option maxRecDepth 1000000 in
set_option maxHeartbeats 2000000 in
theorem rname_any (s : ByteArray) (w : World) (hs : s.size ≤ 1099511627776) :
    Calls Try.prog 16 #[.string s] w fun e w' => e = .returned (.bool (nameB s.data.toList)) ∧ w = w' := by
  have HL : Hid (s.data.toList.length = s.size) := Lib.hid (by simp)
  obtain ⟨R, hR⟩ : ∃ R, nameB s.data.toList = R := ⟨_, rfl⟩
  have HR := Lib.hid hR
  rw [hR]
  clear hR
  by_cases h1 : s.size < 1
  · have q1 : (s.size : Int) < 1 := by omega
    have HN : Hid (R = false) := Lib.hid (by rw [← HR.out]; exact decide_eq_false (by rw [HL.out]; omega))
    obtain rfl := HN.out
    go_enter Try.func16, Try.ntmps16
    go_wp2_with fail
    go_ret
    exact ⟨rfl, rfl⟩
  have q1 : ¬ (s.size : Int) < 1 := by omega
  by_cases h64 : 64 < s.size
  · have q2 : (64 : Int) < s.size := by omega
    have HN : Hid (R = false) := Lib.hid (by rw [← HR.out]; exact decide_eq_false (by rw [HL.out]; omega))
    obtain rfl := HN.out
    go_enter Try.func16, Try.ntmps16
    go_wp2_with fail
    go_ret
    exact ⟨rfl, rfl⟩
  have q2 : ¬ (64 : Int) < s.size := by omega
  have q2d : decide ((64 : Int) < s.size) = false := by simp; omega
  have q1d : decide ((s.size : Int) < 1) = false := by simp; omega
  have g0 : 0 < s.size := by omega
  have hc0 : s[0].toNat < 256 := by have := s[0].toNat_lt; omega
  have X0 : Hid (s[0].toNat = nb s.data.toList 0) := Lib.hid (nb_get s 0 g0)
  have L0 := Lib.hid (letter_any s[0].toNat hc0 w)
  cases hl : letter s[0].toNat with
  | false =>
    rw [hl] at L0
    have HN : Hid (R = false) := Lib.hid (by rw [← HR.out]; exact nameB_no (i := 0) (by rw [HL.out]; omega) (.inr ⟨rfl, by rw [← X0.out]; exact hl⟩))
    clear hl
    obtain rfl := HN.out
    go_enter Try.func16, Try.ntmps16
    go_wp2_with fail
    refine L0.out.mono ?_
    rintro e w8 ⟨rfl, rfl⟩
    go_wp2_with fail
    go_ret
    exact ⟨rfl, rfl⟩
  | true =>
    rw [hl] at L0
    have HL0 : Hid (letter (nb s.data.toList 0) = true) := Lib.hid (by rw [← X0.out]; exact hl)
    clear hl
    go_enter Try.func16, Try.ntmps16
    go_wp2_with fail
    refine L0.out.mono ?_
    rintro e w8 ⟨rfl, rfl⟩
    go_wp2_with fail
    go_loop [3] (fun k => ∃ i : Nat, k = .int .i64 i ∧ Hid (DoneN s.data.toList i)) (fun k => s.size - (intOf k).toNat)
    case atStart => exact ⟨0, rfl, Lib.hid (doneN_zero _)⟩
    case round =>
      obtain ⟨i, rfl, hd⟩ := hrel
      have hil : i ≤ s.size := by have := hd.out.1; rw [HL.out] at this; exact this
      by_cases hp : i < s.size
      · have hp' : (i : Int) < s.size := by omega
        have hc : s[i].toNat < 256 := by have := s[i].toNat_lt; omega
        have X : Hid (s[i].toNat = nb s.data.toList i) := Lib.hid (nb_get s i hp)
        have HLi := Lib.hid (letter_any s[i].toNat hc w)
        have HDi := Lib.hid (digit_any s[i].toNat hc w)
        have NX := Lib.hid (fun a => doneN_step hd.out (by rw [HL.out]; exact hp) (fun e => by subst e; exact HL0.out) a)
        cases hl : letter s[i].toNat with
        | true =>
          rw [hl] at HLi
          have HU := Lib.hid (NX.out (by rw [← X.out]; exact letter_nchar hl))
          clear hl
          go_wp2_with fail
          refine HLi.out.mono ?_
          rintro e w8 ⟨rfl, rfl⟩
          go_wp2_with fail
          go_round
          case rel => exact ⟨i + 1, by go_num, HU⟩
          case measure => simp [intOf]; omega
        | false =>
          rw [hl] at HLi
          cases hg : digt s[i].toNat with
          | true =>
            rw [hg] at HDi
            have HU := Lib.hid (NX.out (by rw [← X.out]; exact digt_nchar hg))
            clear hl hg
            go_wp2_with fail
            refine HLi.out.mono ?_
            rintro e w8 ⟨rfl, rfl⟩
            go_wp2_with fail
            refine HDi.out.mono ?_
            rintro e w8 ⟨rfl, rfl⟩
            go_wp2_with fail
            go_round
            case rel => exact ⟨i + 1, by go_num, HU⟩
            case measure => simp [intOf]; omega
          | false =>
            rw [hg] at HDi
            have HN : Hid (R = false) := Lib.hid (by rw [← HR.out]; exact nameB_no (i := i) (by rw [HL.out]; omega) (.inl (by rw [← X.out]; exact nchar_no hl hg)))
            clear hl hg
            go_wp2_with fail
            refine HLi.out.mono ?_
            rintro e w8 ⟨rfl, rfl⟩
            go_wp2_with fail
            refine HDi.out.mono ?_
            rintro e w8 ⟨rfl, rfl⟩
            go_wp2_with fail
            go_ret
            exact ⟨by rw [HN.out]; rfl, rfl⟩
      · have hp' : ¬ (i : Int) < s.size := by omega
        have HN : Hid (R = true) := Lib.hid (by rw [← HR.out, doneN_end hd.out (by rw [HL.out]; omega), HL.out]; exact decide_eq_true (by omega))
        go_wp2_with fail
        go_ret
        exact ⟨by rw [HN.out]; rfl, rfl⟩

theorem big_no {r m c : Nat} (SM : r < 128 → m = 1 ∧ c = r) (BG : ¬ r < 128 → ¬ c < 128) (h1 : ¬ (97 ≤ r ∧ r ≤ 122)) (h2 : ¬ (65 ≤ r ∧ r ≤ 90) ∧ r ≠ 95 ∧ ¬ (48 ≤ r ∧ r ≤ 57)) : nchar c = false := by
  by_cases hb : r < 128
  · have hsm := SM hb
    rw [hsm.2]
    exact nchar_no (decide_eq_false (by omega)) (decide_eq_false (by omega))
  · have := BG hb
    exact nchar_no (decide_eq_false (by omega)) (decide_eq_false (by omega))

set_option maxRecDepth 1000000 in
set_option maxHeartbeats 4000000 in
theorem name_any (s : ByteArray) (w : World) (hs : s.size ≤ 1099511627776) :
    Calls Try.prog 30 #[.string s] w fun e w' => e = .returned (.bool (nameB s.data.toList)) ∧ Below w.heap.size w w' := by
  have HL : Hid (s.data.toList.length = s.size) := Lib.hid (by simp)
  obtain ⟨R, hR⟩ : ∃ R, nameB s.data.toList = R := ⟨_, rfl⟩
  have HR := Lib.hid hR
  rw [hR]
  clear hR
  go_enter Try.func30, Try.ntmps30
  go_wp2_with fail
  go_loopw [] (fun wr => ∃ i : Nat, wr.heap[w.heap.size]? = some (.stringIter s i) ∧ Below w.heap.size w wr ∧ Hid (DoneN s.data.toList i)) (fun wr => s.size - wr.iterPos w.heap.size)
  case atStart =>
    refine ⟨0, ?_, (Below.refl _ w).alloc (Nat.le_refl _) _, Lib.hid (doneN_zero _)⟩
    have := World.iter_heap w s 0
    simpa using this
  case round =>
    obtain ⟨i, hit, hbw, hd⟩ := hrel
    have hszr : w.heap.size < wr.heap.size := (Array.getElem?_eq_some_iff.1 hit).1
    have HIT := Lib.hid hit
    have HBW := Lib.hid hbw
    clear hit hbw
    have hil : i ≤ s.size := by have := hd.out.1; rw [HL.out] at this; exact this
    by_cases hp : i < s.size
    · have hnx : ∀ ty, (Instr.next (.pointer (some ⟨w.heap.size, 0, none⟩)) true ty).run Try.prog wr = _ := fun ty => Lib.run_next_any_at wr w.heap.size s i ty HIT.out hp
      have hln : (s.data.toList.drop i).length ≠ 0 := by simp; omega
      have hdec := decode_spec s i hp
      have hmv : (if sg (s.data.toList.drop i) = 0 then 1 else sg (s.data.toList.drop i)) = stepQ (s.data.toList.drop i) := rfl
      rw [hmv] at hdec
      rw [hdec] at hnx
      dsimp only at hnx
      have hm1 := stepQ_pos (s.data.toList.drop i)
      have hm2 := stepQ_le hln
      rw [List.length_drop] at hm2
      simp only [Array.length_toList, ByteArray.size_data] at hm2
      have X : Hid (nb (s.data.toList.drop i) 0 = nb s.data.toList i) := Lib.hid (by rw [nb_drop, Nat.add_zero])
      have SM : Hid (rv (s.data.toList.drop i) < 128 → stepQ (s.data.toList.drop i) = 1 ∧ nb s.data.toList i = rv (s.data.toList.drop i)) := Lib.hid (fun h => by
        have := rv_small hln h
        exact ⟨by unfold stepQ; rw [if_neg (by omega)]; exact this.1, by rw [← X.out]; exact this.2⟩)
      have BG : Hid (¬ rv (s.data.toList.drop i) < 128 → ¬ nb s.data.toList i < 128) := Lib.hid (fun h h2 => h (by
        have h3 := sg_one.2 ⟨hln, by rw [X.out]; exact h2⟩
        have h4 : rv (s.data.toList.drop i) = nb (s.data.toList.drop i) 0 := by unfold rv; rw [if_pos h3]
        rw [h4, X.out]; exact h2))
      have hrl : rv (s.data.toList.drop i) ≤ 2147483647 := by have := decode_le s i; rw [hdec] at this; exact this
      have NX := Lib.hid (doneN_step hd.out (by rw [HL.out]; exact hp))
      have NO := Lib.hid (@nameB_no s.data.toList i (by rw [HL.out]; exact hp))
      clear hln hdec hmv
      generalize rv (s.data.toList.drop i) = r at *
      generalize stepQ (s.data.toList.drop i) = m at *
      have HIT2 := Lib.hid (Lib.iterAt_heap wr w.heap.size s i (i + m) HIT.out)
      have HBW2 := Lib.hid (Lib.below_iterAt HBW.out (k := w.heap.size) (by omega) s (i + m))
      generalize hWn : wr.iterAt w.heap.size s (i + m) = Wn at *
      have HWn := Lib.hid hWn
      clear hWn
      by_cases c1 : 97 ≤ r
      · have d1 : (97 : Int) ≤ r := by omega
        by_cases c2 : r ≤ 122
        · have d2 : (r : Int) ≤ 122 := by omega
          have t : True := trivial
          have hsm := SM.out (by omega)
          have HM := Lib.hid hsm.1
          have hlt : letter (nb s.data.toList i) = true := by rw [hsm.2]; exact decide_eq_true (by omega)
          have HU := Lib.hid (NX.out (fun _ => hlt) (letter_nchar hlt))
          clear hsm hlt
          go_wp2_with fail
          go_roundw
          case rel => exact ⟨i + m, HIT2.out, HBW2.out, by rw [HM.out]; exact HU⟩
          case measure => simp only [World.iterPos, HIT2.out, HIT.out]; omega
        have d2 : ¬ (r : Int) ≤ 122 := by omega
        have d3 : (65 : Int) ≤ r := by omega
        have d4 : ¬ (r : Int) ≤ 90 := by omega
        have d5 : ((r : Int) == 95) = false := by simp; omega
        have d6 : ¬ (r : Int) < 48 := by omega
        have d7 : (57 : Int) < r := by omega
        have t : True := trivial
        have HU := Lib.hid (NO.out (.inl (big_no SM.out BG.out (by omega) (by omega))))
        by_cases hz : i = 0
        · have hzb : ((i : Int) == 0) = true := by simp; omega
          clear hz
          go_wp2_with fail
          go_ret
          exact ⟨by rw [← HR.out, HU.out]; rfl, HBW2.out⟩
        · have hzb : ((i : Int) == 0) = false := by simp; omega
          go_wp2_with fail
          go_ret
          exact ⟨by rw [← HR.out, HU.out]; rfl, HBW2.out⟩
      have d1 : ¬ (97 : Int) ≤ r := by omega
      by_cases c3 : 65 ≤ r
      · have d3 : (65 : Int) ≤ r := by omega
        by_cases c4 : r ≤ 90
        · have d4 : (r : Int) ≤ 90 := by omega
          have t : True := trivial
          have hsm := SM.out (by omega)
          have HM := Lib.hid hsm.1
          have hlt : letter (nb s.data.toList i) = true := by rw [hsm.2]; exact decide_eq_true (by omega)
          have HU := Lib.hid (NX.out (fun _ => hlt) (letter_nchar hlt))
          clear hsm hlt
          go_wp2_with fail
          go_roundw
          case rel => exact ⟨i + m, HIT2.out, HBW2.out, by rw [HM.out]; exact HU⟩
          case measure => simp only [World.iterPos, HIT2.out, HIT.out]; omega
        have d4 : ¬ (r : Int) ≤ 90 := by omega
        by_cases c5 : r = 95
        · have d5 : ((r : Int) == 95) = true := by simp; omega
          have C5 := Lib.hid c5
          have hsm := SM.out (by omega)
          have HM := Lib.hid hsm.1
          have hlt : letter (nb s.data.toList i) = true := by rw [hsm.2]; exact decide_eq_true (by omega)
          have HU := Lib.hid (NX.out (fun _ => hlt) (letter_nchar hlt))
          clear hsm hlt c5
          go_wp2_with fail
          go_roundw
          case rel => exact ⟨i + m, HIT2.out, HBW2.out, by rw [HM.out]; exact HU⟩
          case measure => simp only [World.iterPos, HIT2.out, HIT.out]; omega
        have d5 : ((r : Int) == 95) = false := by simp; omega
        have d6 : ¬ (r : Int) < 48 := by omega
        have d7 : (57 : Int) < r := by omega
        have t : True := trivial
        have HU := Lib.hid (NO.out (.inl (big_no SM.out BG.out (by omega) (by omega))))
        by_cases hz : i = 0
        · have hzb : ((i : Int) == 0) = true := by simp; omega
          clear hz
          go_wp2_with fail
          go_ret
          exact ⟨by rw [← HR.out, HU.out]; rfl, HBW2.out⟩
        · have hzb : ((i : Int) == 0) = false := by simp; omega
          go_wp2_with fail
          go_ret
          exact ⟨by rw [← HR.out, HU.out]; rfl, HBW2.out⟩
      have d3 : ¬ (65 : Int) ≤ r := by omega
      have d5 : ((r : Int) == 95) = false := by simp; omega
      by_cases c6 : r < 48
      · have d6 : (r : Int) < 48 := by omega
        have t : True := trivial
        have HU := Lib.hid (NO.out (.inl (big_no SM.out BG.out (by omega) (by omega))))
        by_cases hz : i = 0
        · have hzb : ((i : Int) == 0) = true := by simp; omega
          clear hz
          go_wp2_with fail
          go_ret
          exact ⟨by rw [← HR.out, HU.out]; rfl, HBW2.out⟩
        · have hzb : ((i : Int) == 0) = false := by simp; omega
          go_wp2_with fail
          go_ret
          exact ⟨by rw [← HR.out, HU.out]; rfl, HBW2.out⟩
      have d6 : ¬ (r : Int) < 48 := by omega
      by_cases c7 : 57 < r
      · have d7 : (57 : Int) < r := by omega
        have t : True := trivial
        have HU := Lib.hid (NO.out (.inl (big_no SM.out BG.out (by omega) (by omega))))
        by_cases hz : i = 0
        · have hzb : ((i : Int) == 0) = true := by simp; omega
          clear hz
          go_wp2_with fail
          go_ret
          exact ⟨by rw [← HR.out, HU.out]; rfl, HBW2.out⟩
        · have hzb : ((i : Int) == 0) = false := by simp; omega
          go_wp2_with fail
          go_ret
          exact ⟨by rw [← HR.out, HU.out]; rfl, HBW2.out⟩
      have d7 : ¬ (57 : Int) < r := by omega
      have hsm := SM.out (by omega)
      have HM := Lib.hid hsm.1
      have hdg : digt (nb s.data.toList i) = true := by rw [hsm.2]; exact decide_eq_true (by omega)
      have hnl : letter (nb s.data.toList i) = false := by rw [hsm.2]; exact decide_eq_false (by omega)
      by_cases hz : i = 0
      · have hzb : ((i : Int) == 0) = true := by simp; omega
        have HU := Lib.hid (NO.out (.inr ⟨hz, hnl⟩))
        clear hz hsm hdg hnl
        go_wp2_with fail
        go_ret
        exact ⟨by rw [← HR.out, HU.out]; rfl, HBW2.out⟩
      · have hzb : ((i : Int) == 0) = false := by simp; omega
        have HU := Lib.hid (NX.out (fun h => absurd h hz) (digt_nchar hdg))
        clear hsm hdg hnl
        go_wp2_with fail
        go_roundw
        case rel => exact ⟨i + m, HIT2.out, HBW2.out, by rw [HM.out]; exact HU⟩
        case measure => simp only [World.iterPos, HIT2.out, HIT.out]; omega
    · have hnx : ∀ ty, (Instr.next (.pointer (some ⟨w.heap.size, 0, none⟩)) true ty).run Try.prog wr = _ := fun ty => Lib.run_next_end_at wr w.heap.size s i ty HIT.out hp
      have HE := Lib.hid (doneN_end hd.out (by rw [HL.out]; omega))
      have hle : s.toList.length = s.size := by rw [← HL.out, toList_data]
      by_cases he : s.size = 0
      · have k1 : s.toList = [] := List.length_eq_zero_iff.1 (by omega)
        have HF : Hid (R = false) := Lib.hid (by rw [← HR.out, HE.out, HL.out]; exact decide_eq_false (by omega))
        have k1b : s.toList.isEmpty = true := by rw [k1]; rfl
        clear hle k1
        go_wp2_with fail
        go_ret
        exact ⟨by rw [HF.out]; rfl, HBW.out⟩
      · have k1 : ¬ s.toList = [] := fun h => by rw [h] at hle; simp at hle; omega
        have k1b : s.toList.isEmpty = false := by rw [List.isEmpty_eq_false_iff]; exact k1
        clear hle
        by_cases h64 : s.size ≤ 64
        · have k2 : (s.size : Int) ≤ 64 := by omega
          have HF : Hid (R = true) := Lib.hid (by rw [← HR.out, HE.out, HL.out]; exact decide_eq_true (by omega))
          go_wp2_with fail
          go_ret
          exact ⟨by rw [HF.out]; rfl, HBW.out⟩
        · have k2 : ¬ (s.size : Int) ≤ 64 := by omega
          have HF : Hid (R = false) := Lib.hid (by rw [← HR.out, HE.out, HL.out]; exact decide_eq_false (by omega))
          go_wp2_with fail
          go_ret
          exact ⟨by rw [HF.out]; rfl, HBW.out⟩

def keyL (l : List UInt8) : List UInt8 := if nameB l = true then l else 39 :: (quoteL l ++ [39])
end Go.Proofs.Ytphfnmjccdejkaa

/- Layer 10: the words of the language, in plain lists of bytes. Conditions: none. -/
namespace Go.Proofs.Ytphfnmjccdejkaa
open Go.RowKit
set_option linter.unusedVariables false

def lgB (c : UInt8) : UInt8 := if 97 ≤ c.toNat ∧ c.toNat ≤ 122 then UInt8.ofNat (c.toNat - 32) else c
def largeL (l : List UInt8) : List UInt8 := l.map lgB
def wordsL : List (List UInt8) := [[77, 65, 84, 67, 72], [87, 72, 69, 82, 69], [85, 78, 87, 73, 78, 68], [65, 83], [87, 73, 84, 72], [67, 82, 69, 65, 84, 69], [77, 69, 82, 71, 69], [83, 69, 84], [82, 69, 77, 79, 86, 69], [68, 69, 76, 69, 84, 69], [68, 69, 84, 65, 67, 72], [82, 69, 84, 85, 82, 78], [68, 73, 83, 84, 73, 78, 67, 84], [79, 82, 68, 69, 82], [66, 89], [65, 83, 67], [68, 69, 83, 67], [83, 75, 73, 80], [76, 73, 77, 73, 84], [65, 78, 68], [79, 82], [88, 79, 82], [78, 79, 84], [73, 78], [73, 83], [78, 85, 76, 76], [84, 82, 85, 69], [70, 65, 76, 83, 69]]
def wordB (l : List UInt8) : Bool := decide (largeL l ∈ wordsL)
theorem has_nil (sub : List UInt8) (h : sub ≠ []) : Lib.contains [] sub = false := by
  unfold Lib.contains Lib.index
  rw [if_neg (by cases sub with | nil => exact absurd rfl h | cons c t => simp)]
  rfl
theorem index_ge (sub : List UInt8) : ∀ l, -1 ≤ Lib.index l sub := by
  intro l
  induction l with
  | nil => unfold Lib.index; split <;> omega
  | cons b l ih =>
    unfold Lib.index
    split
    · omega
    · split <;> omega
theorem has_cons (b : UInt8) (l sub : List UInt8) : Lib.contains (b :: l) sub = (sub.isPrefixOf (b :: l) || Lib.contains l sub) := by
  have h := index_ge sub l
  unfold Lib.contains
  rw [Lib.index]
  by_cases hp : sub.isPrefixOf (b :: l) = true
  · rw [if_pos hp, hp]; rfl
  · rw [if_neg hp]
    have hpf : sub.isPrefixOf (b :: l) = false := Bool.eq_false_iff.2 hp
    rw [hpf, Bool.false_or]
    by_cases hi : (Lib.index l sub == -1) = true
    · rw [if_pos hi]
      have : Lib.index l sub = -1 := by simpa using hi
      rw [this]
    · rw [if_neg hi]
      have : Lib.index l sub ≠ -1 := by simpa using hi
      rw [decide_eq_decide]
      omega
theorem has_skip (w r sub : List UInt8) (h : ∀ c ∈ w, c ≠ 32) : Lib.contains (w ++ r) (32 :: sub) = Lib.contains r (32 :: sub) := by
  induction w with
  | nil => rfl
  | cons c w ih =>
    rw [List.cons_append, has_cons, ih (fun d hd => h d (by simp [hd]))]
    have hc := h c (by simp)
    have : (32 :: sub).isPrefixOf (c :: (w ++ r)) = false := by
      simp only [List.isPrefixOf]
      rw [beq_eq_false_iff_ne.2 (Ne.symm hc), Bool.false_and]
    rw [this, Bool.false_or]
/-- Two parts without a blank, each ended by one. -/
theorem pre_word (W w r : List UInt8) (hW : ∀ c ∈ W, c ≠ 32) (hw : ∀ c ∈ w, c ≠ 32) : (W ++ [32]).isPrefixOf (w ++ 32 :: r) = decide (W = w) := by
  induction W generalizing w with
  | nil =>
    cases w with
    | nil => simp
    | cons c w =>
      have hc := hw c (by simp)
      simp only [List.nil_append, List.cons_append, List.isPrefixOf]
      rw [beq_eq_false_iff_ne.2 (Ne.symm hc), Bool.false_and]
      simp
  | cons d W ih =>
    have hd := hW d (by simp)
    cases w with
    | nil =>
      simp only [List.nil_append, List.cons_append, List.isPrefixOf]
      rw [beq_eq_false_iff_ne.2 hd, Bool.false_and]
      simp
    | cons c w =>
      simp only [List.cons_append, List.isPrefixOf]
      rw [ih w (fun x hx => hW x (by simp [hx])) (fun x hx => hw x (by simp [hx]))]
      by_cases hdc : d = c
      · subst hdc; simp
      · rw [beq_eq_false_iff_ne.2 hdc, Bool.false_and]; simp [hdc]
theorem has_words (W : List UInt8) (hW : ∀ c ∈ W, c ≠ 32) : ∀ ws : List (List UInt8), (∀ w ∈ ws, ∀ c ∈ w, c ≠ 32) → Lib.contains (ws.flatMap (fun w => 32 :: w) ++ [32]) (32 :: (W ++ [32])) = decide (W ∈ ws) := by
  intro ws
  induction ws with
  | nil =>
    intro _
    rw [List.flatMap_nil, List.nil_append, has_cons, has_nil _ (by simp)]
    simp [List.isPrefixOf]
  | cons w ws ih =>
    intro h
    have h0 := h w (by simp)
    have h1 := ih (fun u hu => h u (by simp [hu]))
    rw [List.flatMap_cons, List.cons_append, List.cons_append, has_cons, List.append_assoc, has_skip w _ _ h0, h1]
    have hr : ∃ r, ws.flatMap (fun w => 32 :: w) ++ [32] = 32 :: r := by
      cases ws with
      | nil => exact ⟨[], rfl⟩
      | cons u us => exact ⟨_, by rw [List.flatMap_cons]; rfl⟩
    obtain ⟨r, hr⟩ := hr
    rw [hr]
    simp only [List.isPrefixOf, beq_self_eq_true, Bool.true_and]
    rw [pre_word W w r hW h0]
    simp [List.mem_cons]
theorem words_facts : ∀ w ∈ wordsL, (1 ≤ w.length ∧ w.length ≤ 64) ∧ ∀ c ∈ w, 65 ≤ c.toNat ∧ c.toNat ≤ 90 := by decide
theorem lgB_letter : ∀ c : Fin 256, 65 ≤ (lgB (UInt8.ofNat c.val)).toNat ∧ (lgB (UInt8.ofNat c.val)).toNat ≤ 90 → letter c.val = true := by decide +kernel
theorem lgB_nchar : ∀ c : Fin 256, nchar c.val = true → lgB (UInt8.ofNat c.val) ≠ 32 := by decide +kernel
theorem wordB_name {l : List UInt8} (h : wordB l = true) : nameB l = true := by
  have hm := of_decide_eq_true h
  obtain ⟨h1, h2⟩ := words_facts _ hm
  unfold largeL at h1 h2
  rw [List.length_map] at h1
  have hL : ∀ k, k < l.length → letter (nb l k) = true := fun k hk => by
    have h3 := h2 (lgB l[k]) (List.mem_map.2 ⟨l[k], List.getElem_mem hk, rfl⟩)
    have h4 := lgB_letter ⟨l[k].toNat, l[k].toNat_lt⟩
    simp only [UInt8.ofNat_toNat] at h4
    unfold nb
    rw [List.getElem?_eq_getElem hk]
    exact h4 h3
  exact decide_eq_true ⟨h1.1, h1.2, hL 0 (by omega), fun k hk => letter_nchar (hL k hk)⟩
theorem wordB_no {l : List UInt8} (h : nameB l = false) : wordB l = false := by
  cases hw : wordB l with
  | false => rfl
  | true => rw [wordB_name hw] at h; cases h
theorem wordB_has {l : List UInt8} (h : nameB l = true) : Lib.contains (wordsL.flatMap (fun w => 32 :: w) ++ [32]) (32 :: (largeL l ++ [32])) = wordB l := by
  refine has_words _ (fun c hc => ?_) _ (fun w hw c hc e => by have := (words_facts w hw).2 c hc; rw [e] at this; revert this; decide)
  obtain ⟨d, hd, rfl⟩ := List.mem_map.1 hc
  have hn := (of_decide_eq_true h).2.2.2
  obtain ⟨k, hk, rfl⟩ := List.getElem_of_mem hd
  have h1 := hn k hk
  unfold nb at h1
  rw [List.getElem?_eq_getElem hk] at h1
  have h4 := lgB_nchar ⟨l[k].toNat, l[k].toNat_lt⟩ h1
  simpa only [UInt8.ofNat_toNat] using h4
end Go.Proofs.Ytphfnmjccdejkaa

/- Layer 10: the contracts of Large and of the words (the reference's Word). Conditions: the text is no longer than 2^40. -/
namespace Go.Proofs.Ytphfnmjccdejkaa
open Go.RowKit Go.Shelf
set_option linter.unusedSimpArgs false
set_option linter.unusedVariables false

theorem largeL_take {s : ByteArray} {i : Nat} (h : i < s.size) : (largeL s.data.toList).take (i + 1) = (largeL s.data.toList).take i ++ [lgB s[i]] := by
  refine take_succ_some ?_
  unfold largeL
  rw [List.getElem?_map, List.getElem?_eq_getElem (by simpa using h)]
  rfl
theorem lgB_yes {c : UInt8} (h1 : 97 ≤ c.toNat) (h2 : c.toNat ≤ 122) : ((lgB c).toNat : Int) = (c.toNat : Int) - 32 := by
  unfold lgB
  rw [if_pos ⟨h1, h2⟩]
  simp
  omega
theorem lgB_no {c : UInt8} (h : ¬ (97 ≤ c.toNat ∧ c.toNat ≤ 122)) : lgB c = c := by unfold lgB; rw [if_neg h]
set_option maxRecDepth 1000000 in
set_option maxHeartbeats 4000000 in
theorem rlarge_any (s : ByteArray) (w : World) (hs : s.size ≤ 1099511627776) :
    Calls Try.prog 33 #[.string s] w fun e w' => e = .returned (.string (strOf (largeL s.data.toList))) ∧ Below w.heap.size w w' := by
  have HL : Hid ((largeL s.data.toList).length = s.size) := Lib.hid (by unfold largeL; simp)
  obtain ⟨i0, hi, hz0, hz1, hz2⟩ := info_parts Try.info5
  have I0 := Lib.hid hi
  have I1 := Lib.hid hz0
  have I2 := Lib.hid hz1
  have I3 := Lib.hid hz2
  clear hi hz0 hz1 hz2
  go_enter Try.func33, Try.ntmps33
  go_wp2_with fail
  go_loopw [3, 4] (fun v k wr => ∃ (i : Nat), k = .int .i64 i ∧ wr.ownsRow w.heap.size 5 1 v i (Lib.byteCells ((largeL s.data.toList).take i)) ∧ i ≤ s.size ∧ Below w.heap.size w wr) (fun _ k _ => s.size - (intOf k).toNat)
  case atStart => exact ⟨0, rfl, World.ownsRow_nil _ _ _ _, Nat.zero_le _, Below.refl _ _⟩
  case round =>
    obtain ⟨i, rfl, hown, hil, hbr⟩ := hrel
    have HBR := Lib.hid hbr
    have HO := Lib.hid hown
    clear hbr hown
    have hszr := HBR.out.size
    have HR1 := Lib.hid (fun k hk => (HO.out.lt k hk).1)
    by_cases hp : i < s.size
    · have hp' : (i : Int) < s.size := by omega
      have hc : s[i].toNat < 256 := by have := s[i].toNat_lt; omega
      have hst := largeL_take hp
      have HST := Lib.hid hst
      clear hst
      by_cases c1 : 97 ≤ s[i].toNat
      · have d1 : (97 : Int) ≤ s[i].toNat := by omega
        by_cases c2 : s[i].toNat ≤ 122
        · have d2 : (s[i].toNat : Int) ≤ 122 := by omega
          have HLG := Lib.hid (lgB_yes c1 c2)
          go_wp2_with (at_builtin; refine wpList_append_own _ rfl _ _ 37 rfl w.heap.size 5 i0 (.int .u8 0) 1 1 Try.underlying37 I0.out I1.out I2.out I3.out rfl (by omega) u3 i (Lib.byteCells ((largeL s.data.toList).take i)) rfl (HO.out.alloc _) ⟨wr.heap.size, 0, none⟩ 1 1 [.int .u8 ((s[i].toNat : Int) - 32)] rfl rfl (World.news_of_block (cs := #[.int .u8 ((s[i].toNat : Int) - 32)]) (t := 5) (fr := (0, 0)) (heap_alloc_new _ _)) (by simp [Value.oneCell']) (by unfold maxLen; omega) (by omega) (by simp; omega) ?_)
          intro v1 w1 hown1 hgrow _
          have HO1 : Hid (w1.ownsRow w.heap.size 5 1 v1 (i + 1) (Lib.byteCells ((largeL s.data.toList).take (i + 1)))) := Lib.hid (by rw [HST.out, byteCells_snoc, HLG.out]; exact hown1)
          have HB1 : Hid (Below w.heap.size w w1) := Lib.hid (Below.grown (HBR.out.alloc (by omega) _) hgrow (by simp; omega) (fun k hk => HR1.out _ hk))
          clear hown1 hgrow
          go_wp2_with fail
          go_roundw
          case rel => exact ⟨i + 1, by go_num, HO1.out, by omega, HB1.out⟩
          case measure => simp [intOf]; omega
        · have d2 : ¬ (s[i].toNat : Int) ≤ 122 := by omega
          have HLG := Lib.hid (lgB_no (c := s[i]) (by omega))
          go_wp2_with (at_builtin; refine wpList_append_own _ rfl _ _ 37 rfl w.heap.size 5 i0 (.int .u8 0) 1 1 Try.underlying37 I0.out I1.out I2.out I3.out rfl (by omega) u3 i (Lib.byteCells ((largeL s.data.toList).take i)) rfl (HO.out.alloc _) ⟨wr.heap.size, 0, none⟩ 1 1 [.int .u8 s[i].toNat] rfl rfl (World.news_of_block (cs := #[.int .u8 s[i].toNat]) (t := 5) (fr := (0, 0)) (heap_alloc_new _ _)) (by simp [Value.oneCell']) (by unfold maxLen; omega) (by omega) (by simp; omega) ?_)
          intro v1 w1 hown1 hgrow _
          have HO1 : Hid (w1.ownsRow w.heap.size 5 1 v1 (i + 1) (Lib.byteCells ((largeL s.data.toList).take (i + 1)))) := Lib.hid (by rw [HST.out, byteCells_snoc, HLG.out]; exact hown1)
          have HB1 : Hid (Below w.heap.size w w1) := Lib.hid (Below.grown (HBR.out.alloc (by omega) _) hgrow (by simp; omega) (fun k hk => HR1.out _ hk))
          clear hown1 hgrow
          go_wp2_with fail
          go_roundw
          case rel => exact ⟨i + 1, by go_num, HO1.out, by omega, HB1.out⟩
          case measure => simp [intOf]; omega
      · have d1 : ¬ (97 : Int) ≤ s[i].toNat := by omega
        have HLG := Lib.hid (lgB_no (c := s[i]) (by omega))
        go_wp2_with (at_builtin; refine wpList_append_own _ rfl _ _ 37 rfl w.heap.size 5 i0 (.int .u8 0) 1 1 Try.underlying37 I0.out I1.out I2.out I3.out rfl (by omega) u3 i (Lib.byteCells ((largeL s.data.toList).take i)) rfl (HO.out.alloc _) ⟨wr.heap.size, 0, none⟩ 1 1 [.int .u8 s[i].toNat] rfl rfl (World.news_of_block (cs := #[.int .u8 s[i].toNat]) (t := 5) (fr := (0, 0)) (heap_alloc_new _ _)) (by simp [Value.oneCell']) (by unfold maxLen; omega) (by omega) (by simp; omega) ?_)
        intro v1 w1 hown1 hgrow _
        have HO1 : Hid (w1.ownsRow w.heap.size 5 1 v1 (i + 1) (Lib.byteCells ((largeL s.data.toList).take (i + 1)))) := Lib.hid (by rw [HST.out, byteCells_snoc, HLG.out]; exact hown1)
        have HB1 : Hid (Below w.heap.size w w1) := Lib.hid (Below.grown (HBR.out.alloc (by omega) _) hgrow (by simp; omega) (fun k hk => HR1.out _ hk))
        clear hown1 hgrow
        go_wp2_with fail
        go_roundw
        case rel => exact ⟨i + 1, by go_num, HO1.out, by omega, HB1.out⟩
        case measure => simp [intOf]; omega
    · have hp' : ¬ (i : Int) < s.size := by omega
      have HT : Hid ((largeL s.data.toList).take i = largeL s.data.toList) := Lib.hid (List.take_of_length_le (by rw [HL.out]; omega))
      rw [HT.out] at HO
      have hcv := conv_own HO.out
      go_wp2_with fail
      go_ret
      exact ⟨rfl, HBR.out⟩

/-- The literal list of the words, as it lies. -/
def wordsB : List ByteArray := wordsL.map strOf
end Go.Proofs.Ytphfnmjccdejkaa

/- Layer 10: the contract of the program's large. Conditions: the text is no longer than 2^40. -/
namespace Go.Proofs.Ytphfnmjccdejkaa
open Go.RowKit Go.Shelf
set_option linter.unusedSimpArgs false
set_option linter.unusedVariables false

/-- Block g holds these bytes, and they may be written. -/
def Row8 (w : World) (g : Nat) (l : List UInt8) : Prop := ∀ (j : Nat) c, l[j]? = some c → w.cell? ⟨g, j, none⟩ = some (.int .u8 c.toNat) ∧ w.frozen? ⟨g, j, none⟩ = false
theorem Row8.set {w : World} {g : Nat} {l : List UInt8} (h : Row8 w g l) {i : Nat} (hi : i < l.length) (c : UInt8) : Row8 (w.setCell ⟨g, i, none⟩ (.int .u8 c.toNat)) g (l.set i c) := by
  intro j d hd
  by_cases hj : i = j
  · subst hj
    rw [List.getElem?_set_self hi] at hd
    cases hd
    obtain ⟨h1, h2⟩ := h i l[i] (List.getElem?_eq_getElem hi)
    exact ⟨World.cell?_setCell_same _ _ _ h1, by rw [World.frozen?_setCell]; exact h2⟩
  · rw [List.getElem?_set_ne hj] at hd
    obtain ⟨h1, h2⟩ := h j d hd
    exact ⟨by rw [World.cell?_setCell_other _ _ _ _ (by intro e; injection e with _ e; exact hj e)]; exact h1, by rw [World.frozen?_setCell]; exact h2⟩
theorem Row8.of_string (w : World) (s : ByteArray) (cap : Nat) (e : TypeId) : Row8 (w.drew.alloc (.cells (bytesRow s cap) e ((bytesRow s cap).size, (bytesRow s cap).size + 1))) w.heap.size s.data.toList := by
  intro j c hc
  have hb : (w.drew.alloc (.cells (bytesRow s cap) e ((bytesRow s cap).size, (bytesRow s cap).size + 1))).heap[w.heap.size]? = some (.cells (bytesRow s cap) e ((bytesRow s cap).size, (bytesRow s cap).size + 1)) := by
    show (w.heap.push _)[w.heap.size]? = _
    simp
  have hjl := (List.getElem?_eq_some_iff.1 hc).1
  have hsz : j < (bytesRow s cap).size := by unfold bytesRow; simp at hjl ⊢; omega
  constructor
  · simp only [World.cell?, hb]
    have : (bytesRow s cap)[j]? = some (.int .u8 c.toNat) := by
      unfold bytesRow
      rw [Array.getElem?_append_left (by simpa using hjl), Array.getElem?_map]
      rw [← Array.getElem?_toList, hc]; rfl
    simp [this]
  · simp only [World.frozen?, hb]
    simp
    omega
/-- The first i bytes made large. -/
def lgTo (l : List UInt8) (i : Nat) : List UInt8 := (l.take i).map lgB ++ l.drop i
theorem lgTo_len (l : List UInt8) (i : Nat) : (lgTo l i).length = l.length := by unfold lgTo; simp; omega
theorem lgTo_zero (l : List UInt8) : lgTo l 0 = l := by unfold lgTo; simp
theorem lgTo_all (l : List UInt8) (i : Nat) (h : l.length ≤ i) : lgTo l i = largeL l := by unfold lgTo largeL; rw [List.take_of_length_le h, List.drop_of_length_le h, List.append_nil]
theorem lgTo_at {l : List UInt8} {i : Nat} (h : i < l.length) : (lgTo l i)[i]? = some l[i] := by
  unfold lgTo
  rw [List.getElem?_append_right (by simp; omega)]
  simp only [List.length_map, List.length_take]
  rw [Nat.min_eq_left (by omega), Nat.sub_self, List.getElem?_drop, Nat.add_zero, List.getElem?_eq_getElem h]
theorem lgTo_succ {l : List UInt8} {i : Nat} (h : i < l.length) : lgTo l (i + 1) = (lgTo l i).set i (lgB l[i]) := by
  unfold lgTo
  rw [List.take_succ_eq_append_getElem h, List.map_append, List.append_assoc, List.set_append_right _ _ (by simp; omega)]
  simp only [List.length_map, List.length_take]
  rw [Nat.min_eq_left (by omega), Nat.sub_self, List.drop_eq_getElem_cons h]
  rfl
theorem lgTo_same {l : List UInt8} {i : Nat} (h : i < l.length) (hb : lgB l[i] = l[i]) : lgTo l (i + 1) = lgTo l i := by
  rw [lgTo_succ h, hb]
  apply List.ext_getElem?
  intro j
  by_cases hj : i = j
  · subst hj
    rw [List.getElem?_set_self (by rw [lgTo_len]; exact h), lgTo_at h]
  · rw [List.getElem?_set_ne hj]
set_option maxRecDepth 1000000 in
set_option maxHeartbeats 4000000 in
theorem large_any (s : ByteArray) (w : World) (hs : s.size ≤ 1099511627776) :
    Calls Try.prog 29 #[.string s] w fun e w' => e = .returned (.string (strOf (largeL s.data.toList))) ∧ Below w.heap.size w w' := by
  have HLN : Hid (s.data.toList.length = s.size) := Lib.hid (by simp)
  have hcv := run_bytes_of_string (P := Try.prog) w 9 37 5 s Try.underlying9 Try.underlying37 Try.underlying5
  have HROW := Lib.hid (Row8.of_string w s (grownCap w s.size 0 5) 5)
  have hb0 : Below w.heap.size w (w.drew.alloc (.cells (bytesRow s (grownCap w s.size 0 5)) 5 ((bytesRow s (grownCap w s.size 0 5)).size, (bytesRow s (grownCap w s.size 0 5)).size + 1))) := ((Below.refl _ _).drew).alloc (Nat.le_refl _) _
  have HB0 := Lib.hid hb0
  clear hb0
  generalize grownCap w s.size 0 5 = cap at *
  generalize (w.drew.alloc (.cells (bytesRow s cap) 5 ((bytesRow s cap).size, (bytesRow s cap).size + 1))) = W1 at *
  go_enter Try.func29, Try.ntmps29
  go_wp2_with fail
  go_loopw [10] (fun k wr => ∃ (i : Nat), k = .int .i64 i ∧ Row8 wr w.heap.size (lgTo s.data.toList i) ∧ i ≤ s.size ∧ Below w.heap.size w wr) (fun k _ => s.size - (intOf k).toNat)
  case atStart => exact ⟨0, rfl, by rw [lgTo_zero]; exact HROW.out, Nat.zero_le _, HB0.out⟩
  case round =>
    obtain ⟨i, rfl, hrow, hil, hbr⟩ := hrel
    have HBR := Lib.hid hbr
    have HR := Lib.hid hrow
    clear hbr hrow hcv
    by_cases hp : i < s.size
    · have hp' : (i : Int) < s.size := by omega
      have p0 : (0 : Int) ≤ (i : Int) := by omega
      have hpl : i < s.data.toList.length := by rw [HLN.out]; exact hp
      obtain ⟨g1, g2⟩ := HR.out i _ (lgTo_at hpl)
      have HSU := Lib.hid (lgTo_succ hpl)
      have HSA := Lib.hid (lgTo_same hpl)
      have hset := HR.out.set (i := i) (by rw [lgTo_len]; exact hpl) (lgB s.data.toList[i])
      have HSET := Lib.hid hset
      have hc : (s.data.toList[i]).toNat < 256 := by have := (s.data.toList[i]).toNat_lt; omega
      have HY := Lib.hid (@lgB_yes s.data.toList[i])
      have HNO := Lib.hid (@lgB_no s.data.toList[i])
      clear hset
      generalize s.data.toList[i] = c at *
      by_cases c1 : 97 ≤ c.toNat
      · have d1 : (97 : Int) ≤ c.toNat := by omega
        by_cases c2 : c.toNat ≤ 122
        · have d2 : (c.toNat : Int) ≤ 122 := by omega
          have hy := HY.out c1 c2
          have HYY := Lib.hid hy
          clear hy
          go_wp2_with fail
          go_roundw
          case rel => exact ⟨i + 1, by go_num, by have h := HSET.out; rw [HYY.out, ← HSU.out] at h; exact h, by omega, HBR.out.setCell (Nat.le_refl _) _⟩
          case measure => simp [intOf]; omega
        · have d2 : ¬ (c.toNat : Int) ≤ 122 := by omega
          go_wp2_with fail
          go_roundw
          case rel => exact ⟨i + 1, by go_num, by rw [HSA.out (HNO.out (by omega))]; exact HR.out, by omega, HBR.out⟩
          case measure => simp [intOf]; omega
      · have d1 : ¬ (97 : Int) ≤ c.toNat := by omega
        go_wp2_with fail
        go_roundw
        case rel => exact ⟨i + 1, by go_num, by rw [HSA.out (HNO.out (by omega))]; exact HR.out, by omega, HBR.out⟩
        case measure => simp [intOf]; omega
    · have hp' : ¬ (i : Int) < s.size := by omega
      have HT : Hid (lgTo s.data.toList i = largeL s.data.toList) := Lib.hid (lgTo_all _ _ (by rw [HLN.out]; omega))
      have hsz : s.size = (largeL s.data.toList).length := by unfold largeL; rw [List.length_map, HLN.out]
      have HSZ := Lib.hid hsz
      have hback := run_convert_bytes_back (P := Try.prog) wr 37 9 5 ⟨w.heap.size, 0, none⟩ cap (largeL s.data.toList) Try.underlying37 Try.underlying5 Try.underlying9 (fun j hj => by
        have h := HR.out
        rw [HT.out] at h
        rw [addr_add, Nat.zero_add]
        exact (h j _ (List.getElem?_eq_getElem hj)).1)
      rw [← HSZ.out] at hback
      clear hsz
      go_wp2_with fail
      go_ret
      exact ⟨rfl, HBR.out⟩
end Go.Proofs.Ytphfnmjccdejkaa

/- Layer 10: the contract of the reference's Word. Conditions: the text is no longer than 2^40. -/
namespace Go.Proofs.Ytphfnmjccdejkaa
open Go.RowKit Go.Shelf
set_option linter.unusedSimpArgs false
set_option linter.unusedVariables false

def wordsC : List Value := wordsL.map (fun l => .string (strOf l))
set_option maxRecDepth 1000000 in
set_option maxHeartbeats 4000000 in
theorem words_any (w : World) :
    Calls Try.prog 32 #[] w fun e w' => e = .returned (.slice (some ⟨w.heap.size, 0, none⟩) 28 28) ∧ w' = w.alloc (.cells wordsC.toArray 9) := by
  go_enter Try.func32, Try.ntmps32
  go_wp2_with fail
  go_ret
  refine ⟨?_, ?_⟩
  · trace_state; rfl
  · rfl
end Go.Proofs.Ytphfnmjccdejkaa

/- Layer 10: the contract of the reference's Word. Conditions: the text is no longer than 2^40. -/
namespace Go.Proofs.Ytphfnmjccdejkaa
open Go.RowKit Go.Shelf
set_option linter.unusedSimpArgs false
set_option linter.unusedVariables false

def wordR (l : List UInt8) : Value := if wordB l then .tuple #[.string (strOf (largeL l)), .bool true] else .tuple #[.string ⟨#[]⟩, .bool false]
theorem strEq (x y : List UInt8) : ((strOf x).toList == (strOf y).toList) = decide (x = y) := by
  rw [strOf_list, strOf_list, Bool.eq_iff_iff]; simp
theorem wordsC_get {i : Nat} (h : i < 28) : wordsC[i]? = some (.string (strOf (wordsL[i]'(by show i < 28; exact h)))) := by
  unfold wordsC
  rw [List.getElem?_map, List.getElem?_eq_getElem (by show i < 28; exact h)]; rfl
set_option maxRecDepth 1000000 in
set_option maxHeartbeats 4000000 in
theorem rword_any (s : ByteArray) (w : World) (hs : s.size ≤ 1099511627776) :
    Calls Try.prog 11 #[.string s] w fun e w' => e = .returned (wordR s.data.toList) ∧ Below w.heap.size w w' := by
  obtain ⟨R, hR⟩ : ∃ R, wordR s.data.toList = R := ⟨_, rfl⟩
  have HR := Lib.hid hR
  rw [hR]
  clear hR
  go_enter Try.func11, Try.ntmps11
  go_wp2_with fail
  refine (words_any _).mono ?_
  rintro e w1 ⟨rfl, hw1⟩
  have hb1 : Below w.heap.size w w1 := by rw [hw1]; exact (Below.refl _ _).alloc (Nat.le_refl _) _
  have HZ : Hid (w1.heap.size = w.heap.size + 1) := Lib.hid (by rw [hw1]; simp)
  have hck : ∀ (i : Nat) v, wordsC[i]? = some v → w1.cell? ⟨w.heap.size, i, none⟩ = some v := by
    intro i v hv
    rw [hw1]
    simp only [World.cell?, heap_alloc_new]
    simp [hv]
  have HCK := Lib.hid hck
  have HB1 := Lib.hid hb1
  clear hck hb1 hw1
  go_wp2_with fail
  refine (rlarge_any s _ hs).mono ?_
  rintro e w2 ⟨rfl, hb2⟩
  have HCL : Hid (∀ (i : Nat) v, wordsC[i]? = some v → w2.cell? ⟨w.heap.size, i, none⟩ = some v) := Lib.hid (fun i v hv => by
    rw [hb2.cell (by show w.heap.size < w1.heap.size; rw [HZ.out]; omega)]; exact HCK.out i v hv)
  have HB2 : Hid (Below w.heap.size w w2) := Lib.hid (below_step HB1.out rfl hb2)
  clear hb2 HCK
  go_wp2_with fail
  go_loopw [6] (fun k wr => ∃ (i : Nat), k = .int .i64 i ∧ i ≤ 28 ∧ wr = w2 ∧ Hid (∀ j (h : j < 28), j < i → (wordsL[j]'(by show j < 28; exact h)) ≠ largeL s.data.toList)) (fun k _ => 28 - (intOf k).toNat)
  case atStart => exact ⟨0, rfl, by omega, rfl, Lib.hid (fun j _ h => by omega)⟩
  case round =>
    obtain ⟨i, rfl, hil, rfl, HN⟩ := hrel
    by_cases hp : i < 28
    · have hp' : (i : Int) < 28 := by omega
      have p0 : (0 : Int) ≤ (i : Int) := by omega
      have g1 := HCL.out i _ (wordsC_get hp)
      have HEQ := Lib.hid (strEq (wordsL[i]'(by show i < 28; exact hp)) (largeL s.data.toList))
      by_cases hq : (wordsL[i]'(by show i < 28; exact hp)) = largeL s.data.toList
      · have hd : (decide ((wordsL[i]'(by show i < 28; exact hp)) = largeL s.data.toList)) = true := decide_eq_true hq
        rw [hd] at HEQ
        clear hd
        have hwb : wordB s.data.toList = true := by unfold wordB; rw [← hq]; exact decide_eq_true (List.getElem_mem _)
        have hr : R = .tuple #[.string (strOf (largeL s.data.toList)), .bool true] := by rw [← HR.out]; unfold wordR; rw [if_pos hwb]
        have HRR := Lib.hid hr
        clear hr hwb hq
        generalize strOf (wordsL[i]'(by show i < 28; exact hp)) = A at *
        generalize strOf (largeL s.data.toList) = B at *
        have he := HEQ.out
        go_wp2_with fail
        go_ret2
        exact ⟨(by rw [HRR.out]; rfl), HB2.out⟩
      · have hd : (decide ((wordsL[i]'(by show i < 28; exact hp)) = largeL s.data.toList)) = false := decide_eq_false hq
        rw [hd] at HEQ
        clear hd
        have HQ := Lib.hid hq
        clear hq
        have HNN : Hid (∀ j (h : j < 28), j < i + 1 → (wordsL[j]'(by show j < 28; exact h)) ≠ largeL s.data.toList) := Lib.hid (fun j h hj => by
          by_cases hji : j = i
          · subst hji; exact HQ.out
          · exact HN.out j h (by omega))
        generalize strOf (wordsL[i]'(by show i < 28; exact hp)) = A at *
        generalize strOf (largeL s.data.toList) = B at *
        have he := HEQ.out
        go_wp2_with fail
        go_roundw
        case rel => exact ⟨i + 1, by go_num, by omega, by first | rfl | trivial, HNN⟩
        case measure => simp [intOf]; omega
    · have hp' : ¬ (i : Int) < 28 := by omega
      have hwb : wordB s.data.toList = false := by
        unfold wordB
        refine decide_eq_false (fun hm => ?_)
        obtain ⟨j, hj, e⟩ := List.getElem_of_mem hm
        have hj' : j < 28 := hj
        exact HN.out j hj' (by omega) e
      have hr : R = .tuple #[.string ⟨#[]⟩, .bool false] := by rw [← HR.out]; unfold wordR; rw [hwb]; rfl
      have HRR := Lib.hid hr
      clear hr hwb
      go_wp2_with fail
      go_ret2
      exact ⟨(by rw [HRR.out]; rfl), HB2.out⟩
end Go.Proofs.Ytphfnmjccdejkaa

/- A region that draws its order, whose callees make memory and change nothing that was there: walked once, in the order of the text. Conditions: none. -/
namespace Go.Proofs.Ytphfnmjccdejkaa
open Go.RowKit

/-- The worlds that are as w below block B. -/
def Ext (B : Nat) (w : World) : Type := { w' : World // Below B w w' }
instance Ext.ne {B : Nat} {w : World} : Nonempty (Ext B w) := ⟨⟨w, Below.refl _ _⟩⟩
def Ext.w {B : Nat} {w : World} (u : Ext B w) : World := u.1
theorem Ext.below {B : Nat} {w : World} (u : Ext B w) : Below B w u.w := u.2
theorem Ext.cell {B : Nat} {w : World} (u : Ext B w) {a : Addr} {v : Value} (ha : a.block < B) (h : w.cell? a = some v) : u.w.cell? a = some v := by rw [u.below.cell ha]; exact h
theorem ext_call {P : Program} {B : Nat} {w : World} {f : FuncId} {args : Array Value} {v : Value} (u : Ext B w) (hB : B ≤ w.heap.size) (h : Calls P f args u.w fun e w' => e = .returned v ∧ Below u.w.heap.size u.w w') :
    Calls P f args u.w fun e w'' => e = .returned v ∧ ∃ u' : Ext B w, w'' = u'.w :=
  h.mono fun _ w'' ⟨he, hb⟩ => ⟨he, ⟨w'', u.below.trans (hb.mono (Nat.le_trans hB u.below.size))⟩, rfl⟩
theorem wp_region_ext {P : Program} {id : Nat} {Q : Exit → Act → World → Prop} {a : Act} {w : World} {l : List Oper} (B : Nat) (hm : P.follows .mixedOrders = true) (hB : Region.lexB .any l.toArray = true)
    (h : wpQuiet P l.toArray (fun w' => ∃ u : Ext B w, w' = u.w) (fun a' => ∀ w', (∃ u : Ext B w, w' = u.w) → Q .normal a' w') l a) : (Code.region id l.toArray true).wp P Q a w :=
  wp_region_quiet (C := fun w' => ∃ u : Ext B w, w' = u.w) hm hB ⟨⟨w.drew, (Below.refl _ _).drew⟩, rfl⟩ (by simpa using h)
end Go.Proofs.Ytphfnmjccdejkaa

/- The shelf's contracts of strings.Contains at this dump. Conditions: none. -/
namespace Go.Proofs.Ytphfnmjccdejkaa
open Go.Shelf Go.Proofs Go.RowKit Go.Lib
def lays144_ren : Go.Shelf.Ren := ⟨fun | 144 => 31 | 143 => 45 | 219 => 54 | 217 => 57 | 225 => 58 | 224 => 59 | 267 => 60 | 266 => 62 | 314 => 63 | n => n, fun | 9 => 9 | 4 => 4 | 3 => 3 | 5 => 5 | 46 => 71 | 146 => 75 | 51 => 74 | n => n, fun | 1 => 0 | n => n⟩
theorem lays144 : Go.Proofs.Lays.n144 Try.prog lays144_ren := {
  mixed := by kernel_rfl
  f143 := Try.func45.trans (congrArg some (by kernel_rfl))
  f144 := Try.func31.trans (congrArg some (by kernel_rfl))
  f217 := Try.func57.trans (congrArg some (by kernel_rfl))
  f219 := Try.func54.trans (congrArg some (by kernel_rfl))
  f224 := Try.func59.trans (congrArg some (by kernel_rfl))
  f225 := Try.func58.trans (congrArg some (by kernel_rfl))
  f266 := Try.func62.trans (congrArg some (by kernel_rfl))
  f267 := Try.func60.trans (congrArg some (by kernel_rfl))
  f314 := Try.func63.trans (congrArg some (by kernel_rfl))
  t3 := Try.underlying3
  a3 := Try.isAgg3
  z3 := Try.sizeOf3
  v3 := Try.zeroValue3
  t4 := Try.underlying4
  a4 := Try.isAgg4
  z4 := Try.sizeOf4
  v4 := Try.zeroValue4
  t5 := Try.underlying5
  a5 := Try.isAgg5
  z5 := Try.sizeOf5
  v5 := Try.zeroValue5
  t9 := Try.underlying9
  a9 := Try.isAgg9
  z9 := Try.sizeOf9
  v9 := Try.zeroValue9
  t46 := Try.underlying71
  a46 := Try.isAgg71
  z46 := Try.sizeOf71
  v46 := Try.zeroValue71
  t51 := Try.underlying74
  a51 := Try.isAgg74
  z51 := Try.sizeOf74
  v51 := Try.zeroValue74
  t146 := Try.underlying75
  a146 := Try.isAgg75
  z146 := Try.sizeOf75
  v146 := Try.zeroValue75
  g1 := by kernel_rfl }
theorem strings_Contains_one (s : ByteArray) (c : UInt8) (w : World) :
    Calls Try.prog 31 #[.string s, .string ⟨#[c]⟩] w fun e w' => e = .returned (.bool (decide (0 ≤ Lib.indexByte s.data.toList c))) ∧ w' = w := Any.strings_Contains_one lays144 s c w
theorem strings_Contains (s sub : ByteArray) (m : Int) (w : World) (hs : s.size < 4294967281) (hm : w.cell? ⟨0, 0, none⟩ = some (.int .i64 m)) :
    Calls Try.prog 31 #[.string s, .string sub] w fun e w' => e = .returned (.bool (Lib.contains s.data.toList sub.data.toList)) ∧ w' = w := Any.strings_Contains lays144 s sub m w hs hm
def laysM144_ren : Go.Shelf.Ren := ⟨fun | 144 => 31 | 143 => 45 | 219 => 54 | 217 => 57 | 225 => 58 | 224 => 59 | 267 => 60 | 266 => 62 | 314 => 63 | n => n, fun | 9 => 9 | 4 => 4 | 3 => 3 | 5 => 5 | 46 => 71 | 146 => 75 | 51 => 74 | n => n, fun | 1 => 0 | n => n⟩
theorem laysM144 : Go.Proofs.LaysM.n144 Try.prog laysM144_ren := {
  mixed := by kernel_rfl
  f143 := Try.func45.trans (congrArg some (by kernel_rfl))
  f144 := Try.func31.trans (congrArg some (by kernel_rfl))
  f217 := Try.func57.trans (congrArg some (by kernel_rfl))
  f219 := Try.func54.trans (congrArg some (by kernel_rfl))
  f224 := Try.func59.trans (congrArg some (by kernel_rfl))
  f225 := Try.func58.trans (congrArg some (by kernel_rfl))
  f266 := Try.func62.trans (congrArg some (by kernel_rfl))
  f267 := Try.func60.trans (congrArg some (by kernel_rfl))
  f314 := Try.func63.trans (congrArg some (by kernel_rfl))
  t3 := Try.underlying3
  a3 := Try.isAgg3
  z3 := Try.sizeOf3
  v3 := Try.zeroValue3
  t4 := Try.underlying4
  a4 := Try.isAgg4
  z4 := Try.sizeOf4
  v4 := Try.zeroValue4
  t5 := Try.underlying5
  a5 := Try.isAgg5
  z5 := Try.sizeOf5
  v5 := Try.zeroValue5
  t9 := Try.underlying9
  a9 := Try.isAgg9
  z9 := Try.sizeOf9
  v9 := Try.zeroValue9
  t46 := Try.underlying71
  a46 := Try.isAgg71
  z46 := Try.sizeOf71
  v46 := Try.zeroValue71
  t51 := Try.underlying74
  a51 := Try.isAgg74
  z51 := Try.sizeOf74
  v51 := Try.zeroValue74
  t146 := Try.underlying75
  a146 := Try.isAgg75
  z146 := Try.sizeOf75
  v146 := Try.zeroValue75
  g1 := by kernel_rfl
  i3 := by kernel_rfl
  i4 := by kernel_rfl
  i5 := by kernel_rfl
  i9 := by kernel_rfl
  i46 := by kernel_rfl
  i51 := by kernel_rfl
  i146 := by kernel_rfl
  m1 := by kernel_rfl
  s1_3 := fun w h => Go.Proofs.cell_of_shapedOpen_int (zero := #[.int .i64 0]) (t := 3) h (of_decide_eq_true (by kernel_rfl)) (by kernel_rfl) rfl (by kernel_rfl) (by kernel_rfl) Try.underlying3 }
theorem strings_Contains_shaped (s sub : ByteArray) (w : World) (h : w.ShapedOpen Try.prog) (hs : s.size < 4294967281) :
    Calls Try.prog 31 #[.string s, .string sub] w fun e w' => e = .returned (.bool (Lib.contains s.data.toList sub.data.toList)) ∧ w' = w := Any.strings_Contains_shaped laysM144 s sub w h hs
end Go.Proofs.Ytphfnmjccdejkaa

/- Layer 10: the contract of the program's Word. Conditions: the text is no longer than 2^40; the variable of internal/bytealg is an int. -/
namespace Go.Proofs.Ytphfnmjccdejkaa
open Go.RowKit Go.Shelf
set_option linter.unusedSimpArgs false
set_option linter.unusedVariables false

/-- The text of the words, as it stands in the program. -/
def wordsK : ByteArray := { data := (([32, 77, 65, 84, 67, 72, 32, 87, 72, 69, 82, 69, 32, 85, 78, 87, 73, 78, 68, 32, 65, 83, 32, 87, 73, 84, 72, 32, 67, 82, 69, 65, 84, 69, 32, 77, 69].append [82, 71, 69, 32, 83, 69, 84, 32, 82, 69, 77, 79, 86, 69, 32, 68, 69, 76, 69, 84, 69, 32, 68, 69, 84, 65, 67, 72, 32, 82, 69, 84, 85, 82, 78, 32, 68]).append ([73, 83, 84, 73, 78, 67, 84, 32, 79, 82, 68, 69, 82, 32, 66, 89, 32, 65, 83, 67, 32, 68, 69, 83, 67, 32, 83, 75, 73, 80, 32, 76, 73, 77, 73, 84, 32].append [65, 78, 68, 32, 79, 82, 32, 88, 79, 82, 32, 78, 79, 84, 32, 73, 78, 32, 73, 83, 32, 78, 85, 76, 76, 32, 84, 82, 85, 69, 32, 70, 65, 76, 83, 69, 32])).toArray }
theorem wordsK_list : wordsK.data.toList = wordsL.flatMap (fun w => 32 :: w) ++ [32] := by decide +kernel
theorem wordsK_size : wordsK.size < 4294967281 := by decide +kernel
/-- The place of internal/bytealg's MaxLen. -/
def mlA : Addr := ⟨0, 0, none⟩
set_option maxRecDepth 1000000 in
set_option maxHeartbeats 4000000 in
theorem word_any (s : ByteArray) (m : Int) (w : World) (hs : s.size ≤ 1099511627776) (hm : w.cell? mlA = some (.int .i64 m)) (hg : 0 < w.heap.size) :
    Calls Try.prog 10 #[.string s] w fun e w' => e = .returned (wordR s.data.toList) ∧ Below w.heap.size w w' := by
  obtain ⟨R, hR⟩ : ∃ R, wordR s.data.toList = R := ⟨_, rfl⟩
  have HR := Lib.hid hR
  rw [hR]
  clear hR
  have HM := Lib.hid hm
  clear hm
  have HL := Lib.hid (fun (b : Bool) (h : nameB s.data.toList = true) => wordB_has h)
  obtain ⟨nb', hnb⟩ : ∃ nb', nameB s.data.toList = nb' := ⟨_, rfl⟩
  have HNA := Lib.hid (fun w => name_any s w hs)
  rw [hnb] at HNA
  have HNB := Lib.hid hnb
  clear hnb
  go_enter Try.func10, Try.ntmps10
  go_wp2_with fail
  refine (large_any s _ hs).mono ?_
  rintro e w1 ⟨rfl, hb1⟩
  have HB1 := Lib.hid hb1
  have HM1 : Hid (w1.cell? mlA = some (.int .i64 m)) := Lib.hid (by rw [hb1.cell (by show 0 < w.heap.size; exact hg)]; exact HM.out)
  have hg1 : 0 < w1.heap.size := Nat.lt_of_lt_of_le hg hb1.size
  clear hb1
  cases nb' with
  | false =>
    have hr : R = .tuple #[.string ⟨#[]⟩, .bool false] := by rw [← HR.out]; unfold wordR; rw [wordB_no HNB.out]; rfl
    have HRR := Lib.hid hr
    clear hr
    go_wp2_with fail
    refine (HNA.out _).mono ?_
    rintro e w2 ⟨rfl, hb2⟩
    have HB2 := Lib.hid hb2
    clear hb2
    go_wp2_with fail
    go_ret2
    exact ⟨(by rw [HRR.out]; rfl), below_step HB1.out rfl HB2.out⟩
  | true =>
    have hsub : (⟨#[32]⟩ ++ strOf (largeL s.data.toList) ++ ⟨#[32]⟩ : ByteArray).data.toList = 32 :: (largeL s.data.toList ++ [32]) := by simp [strOf]
    have hc : ∀ w2, Below w1.heap.size w1 w2 → Calls Try.prog 31 #[.string wordsK, .string (⟨#[32]⟩ ++ strOf (largeL s.data.toList) ++ ⟨#[32]⟩)] w2 fun e w' => e = .returned (.bool (wordB s.data.toList)) ∧ w' = w2 := fun w2 hb2 => by
      refine (strings_Contains wordsK _ m w2 wordsK_size (by have := hb2.cell (p := mlA) hg1; show w2.cell? mlA = _; rw [this]; exact HM1.out)).mono ?_
      rintro e w' ⟨rfl, rfl⟩
      refine ⟨?_, rfl⟩
      rw [wordsK_list, hsub, wordB_has HNB.out]
    have HCC := Lib.hid hc
    clear hc hsub HL
    obtain ⟨wb, hwb⟩ : ∃ wb, wordB s.data.toList = wb := ⟨_, rfl⟩
    rw [hwb] at HCC
    have hr : R = if wb then .tuple #[.string (strOf (largeL s.data.toList)), .bool true] else .tuple #[.string ⟨#[]⟩, .bool false] := by rw [← HR.out]; unfold wordR; rw [hwb]
    have HRR := Lib.hid hr
    clear hr hwb
    have hxs : (strOf (largeL s.data.toList)).size = s.size := by rw [strOf_size]; unfold largeL; simp
    have hxt : (⟨#[32]⟩ ++ strOf (largeL s.data.toList) : ByteArray).size = 1 + s.size := by rw [ByteArray.size_append, hxs]; rfl
    generalize strOf (largeL s.data.toList) = X at *
    cases wb with
    | true =>
      go_wp2_with fail
      refine (HNA.out _).mono ?_
      rintro e w2 ⟨rfl, hb2⟩
      have hcc := HCC.out w2 hb2
      have HB2 := Lib.hid hb2
      clear hb2
      go_wp2_with fail
      refine hcc.mono ?_
      rintro e w3 ⟨rfl, rfl⟩
      go_wp2_with fail
      go_ret2
      exact ⟨(by rw [HRR.out]; rfl), below_step HB1.out rfl HB2.out⟩
    | false =>
      go_wp2_with fail
      refine (HNA.out _).mono ?_
      rintro e w2 ⟨rfl, hb2⟩
      have hcc := HCC.out w2 hb2
      have HB2 := Lib.hid hb2
      clear hb2
      go_wp2_with fail
      refine hcc.mono ?_
      rintro e w3 ⟨rfl, rfl⟩
      go_wp2_with fail
      go_ret2
      exact ⟨(by rw [HRR.out]; rfl), below_step HB1.out rfl HB2.out⟩
end Go.Proofs.Ytphfnmjccdejkaa

/- Layer 10: the contract of the reference's sign. Written by genL8.py. Conditions: the place lies in the text; the text is no longer than 2^40. -/
namespace Go.Proofs.Ytphfnmjccdejkaa
open Go.RowKit Go.Shelf
set_option linter.unusedSimpArgs false
set_option linter.unusedVariables false

def twosL : List (List UInt8) := [[60, 61], [62, 61], [60, 62]]
def signsL : List (List UInt8) := [[40], [41], [91], [93], [123], [125], [44], [58], [46], [43], [45], [42], [47], [37], [61], [60], [62], [36]]
/-- The sign at the head of a text. -/
def signL (r : List UInt8) : List UInt8 := if r.take 2 ∈ twosL then r.take 2 else if r.take 1 ∈ signsL then r.take 1 else []
def signsK : ByteArray := { data := #[40, 41, 91, 93, 123, 125, 44, 58, 46, 43, 45, 42, 47, 37, 61, 60, 62, 36] }
theorem signsK_at : ∀ i : Fin 18, (signsK.extract i.val (i.val + 1)).data.toList = signsL[i.val]'i.isLt := by decide +kernel
theorem twosL_len : ∀ l ∈ twosL, l.length = 2 := by decide
set_option maxRecDepth 1000000 in
set_option maxHeartbeats 4000000 in
theorem rsign_any (s : ByteArray) (p : Nat) (w : World) (hs : s.size ≤ 1099511627776) (hp : p < s.size) :
    Calls Try.prog 44 #[.string s, .int .i64 p] w fun e w' => e = .returned (.string (strOf (signL (s.data.toList.drop p)))) ∧ w' = w := by
  obtain ⟨R, hR⟩ : ∃ R, strOf (signL (s.data.toList.drop p)) = R := ⟨_, rfl⟩
  have HR := Lib.hid hR
  rw [hR]
  clear hR
  have h1 : (p : Int) + 1 ≤ s.size := by omega
  have p0 : (0 : Int) ≤ (p : Int) := by omega
  have HX1 := Lib.hid (extract_strOf s p 1 (by omega))
  have H1 : Hid ((s.extract p (p + 1)).data.toList = (s.data.toList.drop p).take 1) := Lib.hid (by rw [HX1.out]; simp [strOf])
  by_cases hq : p + 1 < s.size
  · have hq' : (p : Int) + 1 < s.size := by omega
    have HX2 := Lib.hid (extract_strOf s p 2 (by omega))
    have H2 : Hid ((s.extract p (p + 2)).data.toList = (s.data.toList.drop p).take 2) := Lib.hid (by rw [HX2.out]; simp [strOf])
    by_cases c1 : (s.extract p (p + 2)).toList = [60, 61]
    · have hr : R = strOf ((s.data.toList.drop p).take 2) := by rw [← HR.out]; unfold signL; rw [if_pos (by rw [← H2.out, ← Lib.toList_data, c1]; decide)]
      have HRR := Lib.hid hr
      clear hr
      go_enter Try.func44, Try.ntmps44
      go_wp2_with fail
      go_ret
      exact ⟨(by rw [HRR.out, ← HX2.out]; rfl), rfl⟩
    by_cases c2 : (s.extract p (p + 2)).toList = [62, 61]
    · have hr : R = strOf ((s.data.toList.drop p).take 2) := by rw [← HR.out]; unfold signL; rw [if_pos (by rw [← H2.out, ← Lib.toList_data, c2]; decide)]
      have HRR := Lib.hid hr
      clear hr
      go_enter Try.func44, Try.ntmps44
      go_wp2_with fail
      go_ret
      exact ⟨(by rw [HRR.out, ← HX2.out]; rfl), rfl⟩
    by_cases c3 : (s.extract p (p + 2)).toList = [60, 62]
    · have hr : R = strOf ((s.data.toList.drop p).take 2) := by rw [← HR.out]; unfold signL; rw [if_pos (by rw [← H2.out, ← Lib.toList_data, c3]; decide)]
      have HRR := Lib.hid hr
      clear hr
      go_enter Try.func44, Try.ntmps44
      go_wp2_with fail
      go_ret
      exact ⟨(by rw [HRR.out, ← HX2.out]; rfl), rfl⟩
    have NT : Hid (¬ (s.data.toList.drop p).take 2 ∈ twosL) := Lib.hid (by
      rw [← H2.out, ← Lib.toList_data]
      intro hm
      simp only [twosL, List.mem_cons, List.not_mem_nil, or_false] at hm
      rcases hm with e | e | e
      · exact c1 e
      · exact c2 e
      · exact c3 e)
    have b1 : ((s.extract p (p + 2)).toList == [60, 61]) = false := beq_eq_false_iff_ne.2 c1
    have b2 : ((s.extract p (p + 2)).toList == [62, 61]) = false := beq_eq_false_iff_ne.2 c2
    have b3 : ((s.extract p (p + 2)).toList == [60, 62]) = false := beq_eq_false_iff_ne.2 c3
    go_enter Try.func44, Try.ntmps44
    go_wp2_with fail
    go_loopw [8] (fun k wr => ∃ (i : Nat), k = .int .i64 i ∧ i ≤ 18 ∧ wr = w ∧ Hid (∀ j (h : j < 18), j < i → (signsL[j]'(by show j < 18; exact h)) ≠ (s.data.toList.drop p).take 1)) (fun k _ => 18 - (intOf k).toNat)
    case atStart => exact ⟨0, rfl, by omega, rfl, Lib.hid (fun j _ h => by omega)⟩
    case round =>
      obtain ⟨i, rfl, hil, rfl, HN⟩ := hrel
      by_cases hi : i < 18
      · have hi' : (i : Int) < 18 := by omega
        have i0 : (0 : Int) ≤ (i : Int) := by omega
        have i1 : (i : Int) + 1 ≤ 18 := by omega
        have HK := Lib.hid (signsK_at ⟨i, hi⟩)
        by_cases c4 : (signsK.extract i (i + 1)).toList = (s.extract p (p + 1)).toList
        · have e4 : signsL[i]'(by show i < 18; exact hi) = (s.data.toList.drop p).take 1 := by
            rw [← H1.out, ← Lib.toList_data, ← c4, Lib.toList_data]; exact HK.out.symm
          have hr : R = strOf ((s.data.toList.drop p).take 1) := by rw [← HR.out]; unfold signL; rw [if_neg NT.out, if_pos (by rw [← e4]; exact List.getElem_mem _)]
          have HRR := Lib.hid hr
          clear hr e4
          unfold signsK at c4
          have b4 : ((({ data := #[40, 41, 91, 93, 123, 125, 44, 58, 46, 43, 45, 42, 47, 37, 61, 60, 62, 36] } : ByteArray).extract i (i + 1)).toList == (s.extract p (p + 1)).toList) = true := beq_iff_eq.2 c4
          clear c4
          go_wp2_with fail
          go_ret
          exact ⟨(by rw [HRR.out, ← HX1.out]; rfl), rfl⟩
        · have e4 : signsL[i]'(by show i < 18; exact hi) ≠ (s.data.toList.drop p).take 1 := fun e => c4 (by rw [Lib.toList_data, Lib.toList_data, H1.out, HK.out]; exact e)
          have HNN : Hid (∀ j (h : j < 18), j < i + 1 → (signsL[j]'(by show j < 18; exact h)) ≠ (s.data.toList.drop p).take 1) := Lib.hid (fun j h hj => by
            by_cases hji : j = i
            · subst hji; exact e4
            · exact HN.out j h (by omega))
          clear e4
          unfold signsK at c4
          have b4 : ((({ data := #[40, 41, 91, 93, 123, 125, 44, 58, 46, 43, 45, 42, 47, 37, 61, 60, 62, 36] } : ByteArray).extract i (i + 1)).toList == (s.extract p (p + 1)).toList) = false := beq_eq_false_iff_ne.2 c4
          clear c4
          go_wp2_with fail
          go_roundw
          case rel => exact ⟨i + 1, by go_num, by omega, by first | rfl | trivial, HNN⟩
          case measure => simp [intOf]; omega
      · have hi' : ¬ (i : Int) < 18 := by omega
        have hr : R = ⟨#[]⟩ := by
          rw [← HR.out]; unfold signL
          rw [if_neg NT.out, if_neg (fun hm => by
            obtain ⟨j, hj, e⟩ := List.getElem_of_mem hm
            have hj' : j < 18 := hj
            exact HN.out j hj' (by omega) e)]
          rfl
        have HRR := Lib.hid hr
        clear hr
        go_wp2_with fail
        go_ret
        exact ⟨(by rw [HRR.out]; rfl), rfl⟩
  · have hq' : ¬ (p : Int) + 1 < s.size := by omega
    have NT : Hid (¬ (s.data.toList.drop p).take 2 ∈ twosL) := Lib.hid (fun hm => by
      have := twosL_len _ hm
      simp at this
      omega)
    go_enter Try.func44, Try.ntmps44
    go_wp2_with fail
    go_loopw [8] (fun k wr => ∃ (i : Nat), k = .int .i64 i ∧ i ≤ 18 ∧ wr = w ∧ Hid (∀ j (h : j < 18), j < i → (signsL[j]'(by show j < 18; exact h)) ≠ (s.data.toList.drop p).take 1)) (fun k _ => 18 - (intOf k).toNat)
    case atStart => exact ⟨0, rfl, by omega, rfl, Lib.hid (fun j _ h => by omega)⟩
    case round =>
      obtain ⟨i, rfl, hil, rfl, HN⟩ := hrel
      by_cases hi : i < 18
      · have hi' : (i : Int) < 18 := by omega
        have i0 : (0 : Int) ≤ (i : Int) := by omega
        have i1 : (i : Int) + 1 ≤ 18 := by omega
        have HK := Lib.hid (signsK_at ⟨i, hi⟩)
        by_cases c4 : (signsK.extract i (i + 1)).toList = (s.extract p (p + 1)).toList
        · have e4 : signsL[i]'(by show i < 18; exact hi) = (s.data.toList.drop p).take 1 := by
            rw [← H1.out, ← Lib.toList_data, ← c4, Lib.toList_data]; exact HK.out.symm
          have hr : R = strOf ((s.data.toList.drop p).take 1) := by rw [← HR.out]; unfold signL; rw [if_neg NT.out, if_pos (by rw [← e4]; exact List.getElem_mem _)]
          have HRR := Lib.hid hr
          clear hr e4
          unfold signsK at c4
          have b4 : ((({ data := #[40, 41, 91, 93, 123, 125, 44, 58, 46, 43, 45, 42, 47, 37, 61, 60, 62, 36] } : ByteArray).extract i (i + 1)).toList == (s.extract p (p + 1)).toList) = true := beq_iff_eq.2 c4
          clear c4
          go_wp2_with fail
          go_ret
          exact ⟨(by rw [HRR.out, ← HX1.out]; rfl), rfl⟩
        · have e4 : signsL[i]'(by show i < 18; exact hi) ≠ (s.data.toList.drop p).take 1 := fun e => c4 (by rw [Lib.toList_data, Lib.toList_data, H1.out, HK.out]; exact e)
          have HNN : Hid (∀ j (h : j < 18), j < i + 1 → (signsL[j]'(by show j < 18; exact h)) ≠ (s.data.toList.drop p).take 1) := Lib.hid (fun j h hj => by
            by_cases hji : j = i
            · subst hji; exact e4
            · exact HN.out j h (by omega))
          clear e4
          unfold signsK at c4
          have b4 : ((({ data := #[40, 41, 91, 93, 123, 125, 44, 58, 46, 43, 45, 42, 47, 37, 61, 60, 62, 36] } : ByteArray).extract i (i + 1)).toList == (s.extract p (p + 1)).toList) = false := beq_eq_false_iff_ne.2 c4
          clear c4
          go_wp2_with fail
          go_roundw
          case rel => exact ⟨i + 1, by go_num, by omega, by first | rfl | trivial, HNN⟩
          case measure => simp [intOf]; omega
      · have hi' : ¬ (i : Int) < 18 := by omega
        have hr : R = ⟨#[]⟩ := by
          rw [← HR.out]; unfold signL
          rw [if_neg NT.out, if_neg (fun hm => by
            obtain ⟨j, hj, e⟩ := List.getElem_of_mem hm
            have hj' : j < 18 := hj
            exact HN.out j hj' (by omega) e)]
          rfl
        have HRR := Lib.hid hr
        clear hr
        go_wp2_with fail
        go_ret
        exact ⟨(by rw [HRR.out]; rfl), rfl⟩
end Go.Proofs.Ytphfnmjccdejkaa

/- Layer 5: what is put in quotes is read as it was, and has no bare quote and no control byte, in plain lists. Conditions: none. -/
namespace Go.Proofs.Ytphfnmjccdejkaa
open Go.RowKit
set_option linter.unusedVariables false

theorem sg_2 {l : List UInt8} (h1 : 194 ≤ nb l 0) (h2 : nb l 0 < 224) (h3 : tl l 1 = true) : sg l = 2 := by
  have := (tl_true.1 h3).1
  unfold sg
  rw [if_neg (by omega), if_neg (by omega), if_neg (by rw [h3]; simp; omega), if_pos h2]
theorem sg_3 {l : List UInt8} (h1 : 224 ≤ nb l 0) (h2 : nb l 0 < 240) (h3 : tl l 1 = true) (h4 : tl l 2 = true) (h5 : ¬ (nb l 0 = 224 ∧ nb l 1 < 160)) (h6 : ¬ (nb l 0 = 237 ∧ 160 ≤ nb l 1)) : sg l = 3 := by
  have := (tl_true.1 h3).1
  unfold sg
  rw [if_neg (by omega), if_neg (by omega), if_neg (by rw [h3]; simp; omega), if_neg (by omega), if_neg (by rw [h4]; simp only [Bool.true_eq_false, false_or]; omega), if_pos h2]
theorem sg_4 {l : List UInt8} (h1 : 240 ≤ nb l 0) (h2 : nb l 0 ≤ 244) (h3 : tl l 1 = true) (h4 : tl l 2 = true) (h7 : tl l 3 = true) (h5 : ¬ (nb l 0 = 240 ∧ nb l 1 < 144)) (h6 : ¬ (nb l 0 = 244 ∧ 144 ≤ nb l 1)) : sg l = 4 := by
  have := (tl_true.1 h3).1
  unfold sg
  rw [if_neg (by omega), if_neg (by omega), if_neg (by rw [h3]; simp; omega), if_neg (by omega), if_neg (by rw [h4]; simp only [Bool.true_eq_false, false_or]; omega), if_neg (by omega), if_neg (by rw [h7]; simp only [Bool.true_eq_false, false_or]; omega)]
theorem nb_take (l r : List UInt8) (n k : Nat) (h : k < n) (hn : n ≤ l.length) : nb (l.take n ++ r) k = nb l k := by
  unfold nb
  rw [List.getElem?_append_left (by rw [List.length_take]; omega), List.getElem?_take, if_pos h]
theorem tl_take (l r : List UInt8) (n k : Nat) (h : k < n) (hn : n ≤ l.length) (ht : 128 ≤ nb l k ∧ nb l k < 192) : tl (l.take n ++ r) k = true := by
  rw [tl_true, nb_take l r n k h hn, List.length_append, List.length_take]
  exact ⟨by omega, ht⟩
/-- A sign stands by itself. -/
theorem sg_take {l : List UInt8} (r : List UInt8) (h : sg l ≠ 0) : sg (l.take (sg l) ++ r) = sg l := by
  obtain ⟨f2, f3, f4⟩ := sg_facts (l := l)
  have hle := sg_le (l := l)
  have hc : sg l = 1 ∨ sg l = 2 ∨ sg l = 3 ∨ sg l = 4 := by omega
  have n0 : nb (l.take (sg l) ++ r) 0 = nb l 0 := nb_take l r _ 0 (by omega) hle.2
  rcases hc with e | e | e | e
  · have h1 := (sg_one.1 e).2
    rw [e] at n0 hle ⊢
    exact sg_one.2 ⟨by rw [List.length_append, List.length_take]; omega, by omega⟩
  · have h1 := f2 e
    rw [e] at n0 hle ⊢
    exact sg_2 (by omega) (by omega) (tl_take l r 2 1 (by omega) hle.2 h1.2.2)
  · have h1 := f3 e
    rw [e] at n0 hle ⊢
    have n1 := nb_take l r 3 1 (by omega) hle.2
    exact sg_3 (by omega) (by omega) (tl_take l r 3 1 (by omega) hle.2 h1.2.2.1) (tl_take l r 3 2 (by omega) hle.2 h1.2.2.2.1) (by rw [n0, n1]; exact h1.2.2.2.2.1) (by rw [n0, n1]; exact h1.2.2.2.2.2)
  · have h1 := f4 e
    rw [e] at n0 hle ⊢
    have n1 := nb_take l r 4 1 (by omega) hle.2
    exact sg_4 (by omega) (by omega) (tl_take l r 4 1 (by omega) hle.2 h1.2.2.1) (tl_take l r 4 2 (by omega) hle.2 h1.2.2.2.1) (tl_take l r 4 3 (by omega) hle.2 h1.2.2.2.2.1) (by rw [n0, n1]; exact h1.2.2.2.2.2.1) (by rw [n0, n1]; exact h1.2.2.2.2.2.2)
theorem hexd_all : ∀ k : Fin 16, hexv (hxd k.val).toNat = k.val ∧ 48 ≤ (hxd k.val).toNat ∧ (hxd k.val).toNat < 127 := by decide
theorem hexd (k : Nat) (h : k < 16) : hexv (hxd k).toNat = k ∧ 48 ≤ (hxd k).toNat ∧ (hxd k).toNat < 127 := hexd_all ⟨k, h⟩
theorem nb_c0 (c : UInt8) (r : List UInt8) : nb (c :: r) 0 = c.toNat := rfl
theorem nb_c1 (a c : UInt8) (r : List UInt8) : nb (a :: c :: r) 1 = c.toNat := rfl
theorem escV_hex (c : Nat) (hc : c < 256) (r : List UInt8) : escV ([92, 120] ++ hx2 c ++ r) = some (UInt8.ofNat c, 4) := by
  have a := hexd (c / 16) (by omega)
  have b := hexd (c % 16) (by omega)
  have e : [92, 120] ++ hx2 c ++ r = 92 :: 120 :: hxd (c / 16) :: hxd (c % 16) :: r := rfl
  have n2 : nb (92 :: 120 :: hxd (c / 16) :: hxd (c % 16) :: r) 2 = (hxd (c / 16)).toNat := rfl
  have n3 : nb (92 :: 120 :: hxd (c / 16) :: hxd (c % 16) :: r) 3 = (hxd (c % 16)).toNat := rfl
  rw [e, escV_x (by simp) rfl (by rw [n2, a.1]; omega) (by rw [n3, b.1]; omega), n2, n3, a.1, b.1]
  rw [show (((c / 16 : Nat) : Int) * (16 : Int) + ((c % 16 : Nat) : Int)).toNat = c from by omega]
theorem uq_esc {l r : List UInt8} {x : UInt8} {n : Nat} (h0 : l.length ≠ 0) (h : nb l 0 = 92) (he : escV l = some (x, n)) (hr : l.drop n = r) : uq l = (uq r).map fun p => [x] ++ p := by
  rw [uq_eq, if_neg h0, if_pos h, he]
  dsimp only
  rw [hr]
  rfl
theorem take_one {l : List UInt8} (h : l.length ≠ 0) : l.take 1 = [UInt8.ofNat (nb l 0)] := by
  rw [take_nb l 1 (by omega)]; rfl
theorem uq_piece (l r : List UInt8) (h0 : l.length ≠ 0) : uq (pieceQ l ++ r) = (uq r).map fun p => l.take (stepQ l) ++ p := by
  have hb := nb_lt l 0
  have hs1 : ∀ k, nb l 0 = k → k < 128 → sg l = 1 := fun k h1 h2 => sg_one.2 ⟨h0, by omega⟩
  have hst : (sg l = 0 ∨ nb l 0 < 128) → stepQ l = 1 := fun h => by
    unfold stepQ
    rcases h with h | h
    · rw [if_pos h]
    · have := hs1 _ rfl h
      rw [if_neg (by omega)]; exact this
  unfold pieceQ
  by_cases a1 : sg l = 0 ∨ nb l 0 = 127
  · rw [if_pos a1, hst (by omega), take_one h0]
    exact uq_esc (by simp) rfl (escV_hex _ hb r) rfl
  rw [if_neg a1]
  by_cases a2 : nb l 0 = 39 ∨ nb l 0 = 92
  · rw [if_pos a2, hst (by omega), take_one h0]
    have n1 : nb ([92, UInt8.ofNat (nb l 0)] ++ r) 1 = nb l 0 := by
      show (UInt8.ofNat (nb l 0)).toNat = _
      simp; omega
    have e := escV_q (l := [92, UInt8.ofNat (nb l 0)] ++ r) (by simp) (by rw [n1]; omega)
    rw [n1] at e
    exact uq_esc (by simp) rfl e rfl
  rw [if_neg a2]
  by_cases a3 : nb l 0 = 10
  · rw [if_pos a3, hst (by omega), take_one h0, a3]
    exact uq_esc (by simp) rfl (escV_n (by simp) rfl) rfl
  rw [if_neg a3]
  by_cases a4 : nb l 0 = 9
  · rw [if_pos a4, hst (by omega), take_one h0, a4]
    exact uq_esc (by simp) rfl (escV_t (by simp) rfl) rfl
  rw [if_neg a4]
  by_cases a5 : nb l 0 = 13
  · rw [if_pos a5, hst (by omega), take_one h0, a5]
    exact uq_esc (by simp) rfl (escV_r (by simp) rfl) rfl
  rw [if_neg a5]
  by_cases a6 : nb l 0 < 32
  · rw [if_pos a6, hst (by omega), take_one h0]
    exact uq_esc (by simp) rfl (escV_hex _ hb r) rfl
  rw [if_neg a6]
  have h1 : sg l ≠ 0 := fun e => a1 (.inl e)
  have h2 := sg_le (l := l)
  have hS := sg_take r h1
  have n0 := nb_take l r (sg l) 0 (by omega) h2.2
  rw [uq_eq, if_neg (by rw [List.length_append, List.length_take]; omega), n0, if_neg (by omega), hS, if_neg ?_]
  · rw [show stepQ l = sg l from by unfold stepQ; rw [if_neg h1]]
    have h3 : (l.take (sg l)).length = sg l := by rw [List.length_take]; omega
    rw [List.drop_append_of_le_length (by omega), List.take_append_of_le_length (by omega), List.take_take, Nat.min_self]
    rw [List.drop_of_length_le (by omega), List.nil_append]
  · unfold bad
    rw [hS, n0]
    omega
theorem uq_quote : ∀ (k : Nat) (l : List UInt8), l.length = k → uq (quoteL l) = some l := by
  intro k
  induction k using Nat.strongRecOn with
  | _ k ih =>
    intro l hl
    by_cases h0 : l.length = 0
    · rw [quoteL_nil h0, List.length_eq_zero_iff.1 h0]; rfl
    · have h1 := stepQ_pos l
      rw [quoteL_step h0, uq_piece l _ h0, ih _ (by rw [List.length_drop]; omega) (l.drop (stepQ l)) rfl]
      simp
theorem unqS_quote (l : List UInt8) : unqS (39 :: (quoteL l ++ [39])) = some l := by
  unfold unqS
  have hn : nb (39 :: (quoteL l ++ [39])) ((39 :: (quoteL l ++ [39])).length - 1) = 39 := by
    unfold nb
    simp
  rw [if_pos ⟨by simp, rfl, hn⟩]
  have : ((39 :: (quoteL l ++ [39])).drop 1).take ((39 :: (quoteL l ++ [39])).length - 2) = quoteL l := by simp
  rw [this]
  exact uq_quote _ l rfl

/-- Pairs behind a backslash, and signs that are no control byte, no quote and no backslash. -/
inductive Good : List UInt8 → Prop where
  | nil : Good []
  | esc (c : UInt8) (r : List UInt8) (h : Good r) : Good (92 :: c :: r)
  | sign (x r : List UInt8) (hx : x.length ≠ 0) (hs : ∀ q, sg (x ++ q) = x.length) (h32 : 32 ≤ nb x 0) (h127 : nb x 0 ≠ 127) (h39 : nb x 0 ≠ 39) (h92 : nb x 0 ≠ 92) (h : Good r) : Good (x ++ r)
theorem good_byte (c : UInt8) (r : List UInt8) (h1 : 48 ≤ c.toNat) (h2 : c.toNat < 127) (h3 : c.toNat ≠ 92) (h : Good r) : Good (c :: r) :=
  Good.sign [c] r (by simp) (fun q => sg_one.2 ⟨by simp, by show c.toNat < 128; omega⟩) (by show 32 ≤ c.toNat; omega) (by show c.toNat ≠ 127; omega) (by show c.toNat ≠ 39; omega) h3 h
theorem hexd92 : ∀ k : Fin 16, (hxd k.val).toNat ≠ 92 := by decide
theorem good_hex (c : Nat) (hc : c < 256) (r : List UInt8) (h : Good r) : Good ([92, 120] ++ hx2 c ++ r) := by
  have a := hexd (c / 16) (by omega)
  have b := hexd (c % 16) (by omega)
  exact Good.esc 120 _ (good_byte _ _ a.2.1 a.2.2 (hexd92 ⟨c / 16, by omega⟩) (good_byte _ _ b.2.1 b.2.2 (hexd92 ⟨c % 16, by omega⟩) h))
theorem good_piece (l r : List UInt8) (h0 : l.length ≠ 0) (h : Good r) : Good (pieceQ l ++ r) := by
  have hb := nb_lt l 0
  unfold pieceQ
  by_cases a1 : sg l = 0 ∨ nb l 0 = 127
  · rw [if_pos a1]; exact good_hex _ hb r h
  rw [if_neg a1]
  by_cases a2 : nb l 0 = 39 ∨ nb l 0 = 92
  · rw [if_pos a2]; exact Good.esc _ _ h
  rw [if_neg a2]
  by_cases a3 : nb l 0 = 10
  · rw [if_pos a3]; exact Good.esc _ _ h
  rw [if_neg a3]
  by_cases a4 : nb l 0 = 9
  · rw [if_pos a4]; exact Good.esc _ _ h
  rw [if_neg a4]
  by_cases a5 : nb l 0 = 13
  · rw [if_pos a5]; exact Good.esc _ _ h
  rw [if_neg a5]
  by_cases a6 : nb l 0 < 32
  · rw [if_pos a6]; exact good_hex _ hb r h
  rw [if_neg a6]
  have h1 : sg l ≠ 0 := fun e => a1 (.inl e)
  have h2 := sg_le (l := l)
  have n0 : nb (l.take (sg l)) 0 = nb l 0 := by have := nb_take l [] (sg l) 0 (by omega) h2.2; rwa [List.append_nil] at this
  have h3 : (l.take (sg l)).length = sg l := by rw [List.length_take]; omega
  exact Good.sign _ r (by omega) (fun q => by rw [h3]; exact sg_take q h1) (by omega) (by omega) (by omega) (by omega) h
theorem good_quote : ∀ (k : Nat) (l : List UInt8), l.length = k → Good (quoteL l) := by
  intro k
  induction k using Nat.strongRecOn with
  | _ k ih =>
    intro l hl
    by_cases h0 : l.length = 0
    · rw [quoteL_nil h0]; exact Good.nil
    · have h1 := stepQ_pos l
      rw [quoteL_step h0]
      exact good_piece l _ h0 (ih _ (by rw [List.length_drop]; omega) (l.drop (stepQ l)) rfl)
end Go.Proofs.Ytphfnmjccdejkaa

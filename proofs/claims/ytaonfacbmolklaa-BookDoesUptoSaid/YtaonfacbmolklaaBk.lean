/- The program's book in memory: what lies where, whose it is; its plain form. Conditions: none. -/
import Derived.Test.YtaonfacbmolklaaMeet
namespace Go.Proofs.Ytaonfacbmolklaa
open Go.RowKit
set_option linter.unusedSimpArgs false
set_option linter.unusedVariables false

/-- A transaction. -/
structure E where
  who : Int
  at_ : Int
  end_ : Int
  reads : List ByteArray
  touches : List ByteArray
  out : Bool
structure Bk where
  es : List E
  last : Int
/-- Where an entry lies: its block, its two rows. -/
structure R where
  p : Nat
  v1 : Value
  v2 : Value
def R.ptr (r : R) : Value := .pointer (some ⟨r.p, 0, none⟩)
def cellsE (e : E) (v1 v2 : Value) : List Value := [.int .i64 e.who, .int .i64 e.at_, .int .i64 e.end_, v1, v2, .bool e.out]
/-- An entry in memory; tag tells whose each block is. -/
structure IsE (w : World) (B : Nat) (tag : Nat → Nat × Nat) (r : R) (e : E) : Prop where
  blk : Block w r.p (cellsE e r.v1 r.v2) 55
  base : B ≤ r.p
  tp : tag r.p = (r.p, 0)
  o1 : w.ownsRow B 9 1 r.v1 e.reads.length (e.reads.map Value.string)
  t1 : ∀ g, r.v1.ownBlock = some g → tag g = (r.p, 1)
  o2 : w.ownsRow B 9 1 r.v2 e.touches.length (e.touches.map Value.string)
  t2 : ∀ g, r.v2.ownBlock = some g → tag g = (r.p, 2)
/-- The book in memory. -/
structure IsBook (w : World) (B P : Nat) (bk : Bk) (tag : Nat → Nat × Nat) (lv : Value) (rs : List R) : Prop where
  blk : Block w P [lv, .int .i64 bk.last] 51
  base : B ≤ P
  tP : tag P = (P, 0)
  row : w.ownsRow B 53 1 lv rs.length (rs.map R.ptr)
  tl : ∀ g, lv.ownBlock = some g → tag g = (P, 1)
  len : rs.length = bk.es.length
  ent : ∀ (i : Nat) r e, rs[i]? = some r → bk.es[i]? = some e → IsE w B tag r e
  nd : (rs.map R.p).Nodup
  np : P ∉ rs.map R.p
/-- The blocks that are the book's. -/
def OwnB (P : Nat) (lv : Value) (rs : List R) (k : Nat) : Prop := k = P ∨ lv.ownBlock = some k ∨ ∃ r ∈ rs, k = r.p ∨ r.v1.ownBlock = some k ∨ r.v2.ownBlock = some k
/-- Nothing but the blocks of S has turned. -/
structure KeptS (S : Nat → Prop) (w w' : World) : Prop where
  os : w'.os = w.os
  tape : w'.tape = w.tape
  output : w'.output = w.output
  size : w.heap.size ≤ w'.heap.size
  block : ∀ k, k < w.heap.size → ¬ S k → w'.heap[k]? = w.heap[k]?
theorem KeptS.of_below {S : Nat → Prop} {w w' : World} (h : Below w.heap.size w w') : KeptS S w w' := ⟨h.os, h.tape, h.output, h.size, fun k hk _ => h.block k hk⟩
theorem KeptS.trans {S S' : Nat → Prop} {a b c : World} (h : KeptS S a b) (k : KeptS S' b c) (hs : ∀ x, S' x → S x ∨ a.heap.size ≤ x) : KeptS S a c :=
  ⟨k.os.trans h.os, k.tape.trans h.tape, k.output.trans h.output, Nat.le_trans h.size k.size, fun x hx hn => by
    rw [k.block x (Nat.lt_of_lt_of_le hx h.size) (fun hm => by rcases hs x hm with h1 | h1; exact hn h1; omega), h.block x hx hn]⟩
theorem KeptS.below {S : Nat → Prop} {B : Nat} {w w' : World} (h : KeptS S w w') (hS : ∀ x, S x → B ≤ x) (hB : B ≤ w.heap.size) : Below B w w' :=
  ⟨h.os, h.tape, h.output, h.size, fun k hk => h.block k (by omega) (fun hm => by have := hS k hm; omega)⟩
theorem KeptS.setCell {S : Nat → Prop} {a w : World} (h : KeptS S a w) {p : Addr} (hp : S p.block ∨ a.heap.size ≤ p.block) (v : Value) : KeptS S a (w.setCell p v) :=
  ⟨h.os, h.tape, h.output, by simpa [World.setCell] using h.size, fun k hk hn => by
    rw [Below.heap_setCell _ _ _ _ (fun e => by subst e; rcases hp with hp | hp; exact hn hp; omega), h.block k hk hn]⟩
theorem KeptS.refl (S : Nat → Prop) (w : World) : KeptS S w w := ⟨rfl, rfl, rfl, Nat.le_refl _, fun _ _ _ => rfl⟩
theorem KeptS.grown {S : Nat → Prop} {a w w' : World} {row : Option Nat} (h : KeptS S a w) (hg : w.grownBy w' row) (hr : ∀ k, row = some k → S k ∨ a.heap.size ≤ k) : KeptS S a w' :=
  ⟨hg.os.trans h.os, hg.tape.trans h.tape, hg.output.trans h.output, Nat.le_trans h.size hg.size, fun k hk hn => by
    rw [hg.block k (Nat.lt_of_lt_of_le hk h.size) (fun e => by rcases hr k e.symm with h1 | h1; exact hn h1; omega), h.block k hk hn]⟩
theorem KeptS.mono {S S' : Nat → Prop} {a w : World} (h : KeptS S a w) (hs : ∀ x, S x → S' x) : KeptS S' a w := ⟨h.os, h.tape, h.output, h.size, fun k hk hn => h.block k hk (fun hm => hn (hs k hm))⟩
theorem IsE.same {w w' : World} {B : Nat} {tag : Nat → Nat × Nat} {r : R} {e : E} (h : IsE w B tag r e) (hs : ∀ k, k = r.p ∨ r.v1.ownBlock = some k ∨ r.v2.ownBlock = some k → w'.heap[k]? = w.heap[k]?) : IsE w' B tag r e :=
  ⟨h.blk.of_heap (hs _ (.inl rfl)), h.base, h.tp, own_of_heap h.o1 (fun k e => hs k (.inr (.inl e))), h.t1, own_of_heap h.o2 (fun k e => hs k (.inr (.inr e))), h.t2⟩
theorem IsBook.same {w w' : World} {B P : Nat} {bk : Bk} {tag : Nat → Nat × Nat} {lv : Value} {rs : List R} (h : IsBook w B P bk tag lv rs) (hs : ∀ k, OwnB P lv rs k → w'.heap[k]? = w.heap[k]?) : IsBook w' B P bk tag lv rs :=
  ⟨h.blk.of_heap (hs _ (.inl rfl)), h.base, h.tP, own_of_heap h.row (fun k e => hs k (.inr (.inl e))), h.tl, h.len, fun i r e hr he => (h.ent i r e hr he).same fun k hk => hs k (.inr (.inr ⟨r, List.mem_of_getElem? hr, hk⟩)), h.nd, h.np⟩
theorem IsBook.ownlt {w : World} {B P : Nat} {bk : Bk} {tag : Nat → Nat × Nat} {lv : Value} {rs : List R} (h : IsBook w B P bk tag lv rs) {k : Nat} (hk : OwnB P lv rs k) : B ≤ k ∧ k < w.heap.size := by
  rcases hk with rfl | hk | ⟨r, hr, hk⟩
  · exact ⟨h.base, h.blk.lt⟩
  · exact h.row.lt k hk
  · obtain ⟨i, hi⟩ := List.mem_iff_getElem?.1 hr
    obtain ⟨e, he⟩ : ∃ e, bk.es[i]? = some e := get_some (by have := (List.getElem?_eq_some_iff.1 hi).1; have := h.len; omega)
    have hE := h.ent i r e hi he
    rcases hk with rfl | hk | hk
    · exact ⟨hE.base, hE.blk.lt⟩
    · exact hE.o1.lt k hk
    · exact hE.o2.lt k hk
theorem IsBook.below {w w' : World} {B P : Nat} {bk : Bk} {tag : Nat → Nat × Nat} {lv : Value} {rs : List R} (h : IsBook w B P bk tag lv rs) (hb : Below w.heap.size w w') : IsBook w' B P bk tag lv rs :=
  h.same fun k hk => hb.block k (h.ownlt hk).2
/-- The book lies at P, with its memory within S. -/
def BookAt (w : World) (B P : Nat) (bk : Bk) (S : Nat → Prop) : Prop := ∃ tag lv rs, IsBook w B P bk tag lv rs ∧ ∀ k, OwnB P lv rs k → S k
def grow (S : Nat → Prop) (w w' : World) (k : Nat) : Prop := S k ∨ (w.heap.size ≤ k ∧ k < w'.heap.size)
/-- What an act on the book leaves. -/
def Acted (w : World) (B P : Nat) (bk : Bk) (S : Nat → Prop) (w' : World) : Prop := BookAt w' B P bk (grow S w w') ∧ KeptS S w w'
theorem BookAt.acted {w w' : World} {B P : Nat} {bk : Bk} {S : Nat → Prop} (h : BookAt w B P bk S) (hb : Below w.heap.size w w') : Acted w B P bk S w' := by
  obtain ⟨tag, lv, rs, h1, h2⟩ := h
  exact ⟨⟨tag, lv, rs, h1.below hb, fun k hk => .inl (h2 k hk)⟩, KeptS.of_below hb⟩
theorem BookAt.below {w w' : World} {B P : Nat} {bk : Bk} {S : Nat → Prop} (h : BookAt w B P bk S) (hb : Below w.heap.size w w') : BookAt w' B P bk S := by
  obtain ⟨tag, lv, rs, h1, h2⟩ := h
  exact ⟨tag, lv, rs, h1.below hb, h2⟩
theorem BookAt.mono {w : World} {B P : Nat} {bk : Bk} {S S' : Nat → Prop} (h : BookAt w B P bk S) (hs : ∀ k, S k → S' k) : BookAt w B P bk S' := by
  obtain ⟨tag, lv, rs, h1, h2⟩ := h
  exact ⟨tag, lv, rs, h1, fun k hk => hs k (h2 k hk)⟩
/-- Another's act leaves the book as it is. -/
theorem BookAt.kept {w w' : World} {B P : Nat} {bk : Bk} {S S' : Nat → Prop} (h : BookAt w B P bk S) (hk : KeptS S' w w') (hd : ∀ k, S k → ¬ S' k) : BookAt w' B P bk S := by
  obtain ⟨tag, lv, rs, h1, h2⟩ := h
  exact ⟨tag, lv, rs, h1.same fun k hk' => hk.block k (h1.ownlt hk').2 (hd k (h2 k hk')), h2⟩
theorem Acted.trans {a b c : World} {B P : Nat} {bk bk' : Bk} {S : Nat → Prop} (h : Acted a B P bk S b) (k : Acted b B P bk' (grow S a b) c) : Acted a B P bk' S c := by
  refine ⟨k.1.mono fun x hx => ?_, h.2.trans k.2 fun x hx => ?_⟩
  · have h1 := h.2.size
    have h2 := k.2.size
    unfold grow at *
    rcases hx with (hx | hx) | hx
    · exact .inl hx
    · exact .inr ⟨hx.1, by omega⟩
    · exact .inr ⟨by omega, hx.2⟩
  · rcases hx with hx | hx
    · exact .inl hx
    · exact .inr hx.1
/-- The plain form: what is asked. -/
def findB (es : List E) (who : Int) : Option Nat := es.findIdx? fun e => decide (e.who = who ∧ e.end_ = 0)
def besideB (es : List E) (i k : Nat) : Bool := match es[i]?, es[k]? with
  | some e, some t => decide (i ≠ k ∧ (e.end_ = 0 ∨ t.at_ < e.end_))
  | _, _ => false
def aheadB (es : List E) (i k : Nat) : Bool := match es[i]?, es[k]? with
  | some e, some t => meetB e.reads t.touches
  | _, _ => false
def inB (es : List E) (k : Nat) : Bool := (List.range es.length).any fun i => besideB es i k && aheadB es i k
def outB (es : List E) (k : Nat) : Bool := (List.range es.length).any fun i => besideB es i k && aheadB es k i
def flagsB (es : List E) (who : Int) : Bool × Bool := match findB es who with
  | none => (false, false)
  | some k => (inB es k, outB es k)
def keepB (es : List E) (e : E) : Bool := decide (e.end_ = 0) || es.any fun u => decide (u.end_ = 0 ∧ u.at_ < e.end_)
def forgetB (es : List E) : List E := es.filter (keepB es)
def openB (bk : Bk) (who at_ : Int) : Int × Bk :=
  if who < 1 ∨ at_ < 0 ∨ bk.last < at_ then (20, bk)
  else if bk.es.any fun e => decide (e.who = who) then (25, bk)
  else (0, ⟨bk.es ++ [⟨who, at_, 0, [], [], false⟩], bk.last⟩)
def readB (bk : Bk) (who : Int) (l : List ByteArray) : Int × Bk := match findB bk.es who with
  | none => (23, bk)
  | some k => (0, ⟨bk.es.modify k fun e => { e with reads := addS e.reads l }, bk.last⟩)
def touchB (bk : Bk) (who : Int) (l : List ByteArray) : Int × Bk := match findB bk.es who with
  | none => (23, bk)
  | some k => (0, ⟨bk.es.modify k fun e => { e with touches := addS e.touches l }, bk.last⟩)
def dropB (bk : Bk) (who : Int) : Int × Bk := match findB bk.es who with
  | none => (23, bk)
  | some k => (0, ⟨forgetB (bk.es.eraseIdx k), bk.last⟩)
/-- Has an open one read what one changed that was closed beside it; and may it not be closed? -/
def conB (es : List E) (k i : Nat) : Bool := (match es[i]? with | some e => decide (¬ e.end_ = 0) | none => false) && besideB es i k && aheadB es k i
def badB (es : List E) (k : Nat) : Bool := (List.range es.length).any fun i => conB es k i && (inB es k || (match es[i]? with | some e => e.out | none => false))
def closeB (bk : Bk) (who end_ : Int) : Int × Bk := match findB bk.es who with
  | none => (23, bk)
  | some k => if end_ ≤ bk.last then (21, bk)
    else if badB bk.es k then (7, (dropB bk who).2)
    else (0, ⟨forgetB (bk.es.modify k fun e => { e with end_ := end_, out := (List.range bk.es.length).any (conB bk.es k) }), end_⟩)
end Go.Proofs.Ytaonfacbmolklaa

/- A book that lies above all that the law was given: each call in one line. Conditions: sizes are small. -/
import Derived.Test.YtaonfacbmolklaaClose
namespace Go.Proofs.Ytaonfacbmolklaa
open Go.RowKit
set_option linter.unusedSimpArgs false
set_option linter.unusedVariables false

/-- The book lies at P, above W's blocks; all that W holds stands. -/
def Held (W : World) (P : Nat) (bk : Bk) (u : World) : Prop := (∃ tag lv rs, IsBook u W.heap.size P bk tag lv rs) ∧ Below W.heap.size W u
/-- What all books of the laws keep to. -/
structure OkBk (n : Nat) (bk : Bk) : Prop where
  len : bk.es.length ≤ n
  srt : ∀ e ∈ bk.es, SortedS e.reads ∧ SortedS e.touches
  lim : ∀ e ∈ bk.es, e.reads.length ≤ n * 1048576 ∧ e.touches.length ≤ n * 1048576
  out : ∀ e ∈ bk.es, e.end_ = 0 → e.out = false
  pos : ∀ e ∈ bk.es, 0 ≤ e.end_
  last : 0 ≤ bk.last
theorem OkBk.small {n : Nat} {bk : Bk} (h : OkBk n bk) (hn : n ≤ 1000) : SmallB bk :=
  ⟨by have := h.len; omega, fun e he => by have := h.lim e he; omega⟩
theorem Held.step {W u w' : World} {P : Nat} {bk bk' : Bk} {tag : Nat → Nat × Nat} {lv : Value} {rs : List R} (hI : IsBook u W.heap.size P bk tag lv rs) (hb : Below W.heap.size W u) (h : Acted u W.heap.size P bk' (OwnB P lv rs) w') : Held W P bk' w' := by
  obtain ⟨⟨tag', lv', rs', h1, _⟩, hk⟩ := h
  exact ⟨⟨tag', lv', rs', h1⟩, hb.trans (hk.below (fun x hx => (hI.ownlt hx).1) hb.size)⟩
theorem Held.below {W u w' : World} {P : Nat} {bk : Bk} (h : Held W P bk u) (hb : Below u.heap.size u w') : Held W P bk w' := by
  obtain ⟨⟨tag, lv, rs, hI⟩, h2⟩ := h
  exact ⟨⟨tag, lv, rs, hI.below hb⟩, h2.trans (hb.mono h2.size)⟩
theorem held_new (W u : World) (hb : Below W.heap.size W u) : Calls Try.prog 7 #[] u fun e w' => e = .returned (.pointer (some ⟨u.heap.size, 0, none⟩)) ∧ w'.heap.size = u.heap.size + 1 ∧ Below u.heap.size u w' ∧ Held W u.heap.size ⟨[], 0⟩ w' := by
  refine (new_any u W.heap.size hb.size).mono ?_
  rintro e w' ⟨h1, h2, h3, tag, lv, rs, h4, _⟩
  exact ⟨h1, h3, h2, ⟨tag, lv, rs, h4⟩, hb.trans (h2.mono hb.size)⟩
theorem held_open {W u : World} {P n : Nat} {bk : Bk} (who at_ : Int) (h : Held W P bk u) (ho : OkBk n bk) (hn : n ≤ 1000) : Calls Try.prog 8 #[.pointer (some ⟨P, 0, none⟩), .int .i64 who, .int .i64 at_] u fun e w' => e = .returned (.int .i64 (openB bk who at_).1) ∧ Held W P (openB bk who at_).2 w' := by
  obtain ⟨⟨tag, lv, rs, hI⟩, hb⟩ := h
  refine (open_any u W.heap.size P bk (OwnB P lv rs) who at_ ⟨tag, lv, rs, hI, fun _ h => h⟩ (by have := ho.len; omega)).mono ?_
  rintro e w' ⟨h1, h2⟩
  exact ⟨h1, Held.step hI hb h2⟩
theorem row_below {B : Nat} {w w' : World} {a : Option Addr} {l : List ByteArray} (h : StrRow B w a l) (hb : Below B w w') : StrRow w'.heap.size w' a l := by
  rcases h with h | ⟨b, off, h1, h2, h3⟩
  · exact .inl h
  · rcases Nat.eq_zero_or_pos (l.map Value.string).length with h0 | h0
    · exact .inl (List.length_eq_zero_iff.1 h0)
    · refine .inr ⟨b, off, h1, ?_, fun i v hi => ?_⟩
      · obtain ⟨v, hv⟩ : ∃ v, (l.map Value.string)[0]? = some v := get_some h0
        have h4 := h3 0 v hv
        rw [← hb.cell h2] at h4
        exact World.block_lt_of_cell? w' _ h4
      · rw [hb.cell h2]; exact h3 i v hi
theorem block_row {u : World} {q : Nat} {t : TypeId} {l : List ByteArray} (h : Block u q (l.map Value.string) t) : StrRow u.heap.size u (some ⟨q, 0, none⟩) l :=
  .inr ⟨q, 0, rfl, h.lt, fun i v hi => by rw [Nat.zero_add]; exact h.cell hi⟩
theorem held_read {W u : World} {P n : Nat} {bk : Bk} (who : Int) {l : List ByteArray} {ma : Option Addr} (mc : Nat) (h : Held W P bk u) (ho : OkBk n bk) (hn : n ≤ 1000) (hm : StrRow W.heap.size W ma l) (hl : l.length ≤ 1048576) : Calls Try.prog 10 #[.pointer (some ⟨P, 0, none⟩), .int .i64 who, .slice ma l.length mc] u fun e w' => e = .returned (.int .i64 (readB bk who l).1) ∧ Held W P (readB bk who l).2 w' := by
  obtain ⟨⟨tag, lv, rs, hI⟩, hb⟩ := h
  refine (read_any u W.heap.size P bk (OwnB P lv rs) who l ma mc ⟨tag, lv, rs, hI, fun _ h => h⟩ (fun w' hk => row_below hm (hb.trans (hk.below (fun x hx => (hI.ownlt hx).1) hb.size))) (by have := ho.len; omega) (fun e he => ⟨(ho.srt e he).1, by have := (ho.lim e he).1; omega⟩) (by omega)).mono ?_
  rintro e w' ⟨h1, h2⟩
  exact ⟨h1, Held.step hI hb h2⟩
theorem held_read_new {W u : World} {P n : Nat} {bk : Bk} (who : Int) {l : List ByteArray} (h : Held W P bk u) (ho : OkBk n bk) (hn : n ≤ 1000) (hl : l.length ≤ 1048576) : Calls Try.prog 10 #[.pointer (some ⟨P, 0, none⟩), .int .i64 who, .slice (some ⟨u.heap.size, 0, none⟩) l.length l.length] (u.alloc (.cells (l.map Value.string).toArray 9)) fun e w' => e = .returned (.int .i64 (readB bk who l).1) ∧ Held W P (readB bk who l).2 w' := by
  obtain ⟨⟨tag, lv, rs, hI⟩, hb⟩ := h
  have hb1 : Below u.heap.size u (u.alloc (.cells (l.map Value.string).toArray 9)) := (Below.refl _ _).alloc (Nat.le_refl _) _
  have hX : Block (u.alloc (.cells (l.map Value.string).toArray 9)) u.heap.size (l.map Value.string) 9 := Block.new _ _ _
  have hI1 := hI.below hb1
  refine (read_any _ W.heap.size P bk (OwnB P lv rs) who l _ l.length ⟨tag, lv, rs, hI1, fun _ h => h⟩ (fun w' hk => block_row (hX.of_heap (hk.block _ hX.lt (fun hm => by have := (hI.ownlt hm).2; omega)))) (by have := ho.len; omega) (fun e he => ⟨(ho.srt e he).1, by have := (ho.lim e he).1; omega⟩) (by omega)).mono ?_
  rintro e w' ⟨h1, h2⟩
  exact ⟨h1, Held.step hI1 (hb.trans (hb1.mono hb.size)) h2⟩
theorem held_touch {W u : World} {P n : Nat} {bk : Bk} (who : Int) {l : List ByteArray} {ma : Option Addr} (mc : Nat) (h : Held W P bk u) (ho : OkBk n bk) (hn : n ≤ 1000) (hm : StrRow W.heap.size W ma l) (hl : l.length ≤ 1048576) : Calls Try.prog 12 #[.pointer (some ⟨P, 0, none⟩), .int .i64 who, .slice ma l.length mc] u fun e w' => e = .returned (.int .i64 (touchB bk who l).1) ∧ Held W P (touchB bk who l).2 w' := by
  obtain ⟨⟨tag, lv, rs, hI⟩, hb⟩ := h
  refine (touch_any u W.heap.size P bk (OwnB P lv rs) who l ma mc ⟨tag, lv, rs, hI, fun _ h => h⟩ (fun w' hk => row_below hm (hb.trans (hk.below (fun x hx => (hI.ownlt hx).1) hb.size))) (by have := ho.len; omega) (fun e he => ⟨(ho.srt e he).2, by have := (ho.lim e he).2; omega⟩) (by omega)).mono ?_
  rintro e w' ⟨h1, h2⟩
  exact ⟨h1, Held.step hI hb h2⟩
theorem held_touch_new {W u : World} {P n : Nat} {bk : Bk} (who : Int) {l : List ByteArray} (h : Held W P bk u) (ho : OkBk n bk) (hn : n ≤ 1000) (hl : l.length ≤ 1048576) : Calls Try.prog 12 #[.pointer (some ⟨P, 0, none⟩), .int .i64 who, .slice (some ⟨u.heap.size, 0, none⟩) l.length l.length] (u.alloc (.cells (l.map Value.string).toArray 9)) fun e w' => e = .returned (.int .i64 (touchB bk who l).1) ∧ Held W P (touchB bk who l).2 w' := by
  obtain ⟨⟨tag, lv, rs, hI⟩, hb⟩ := h
  have hb1 : Below u.heap.size u (u.alloc (.cells (l.map Value.string).toArray 9)) := (Below.refl _ _).alloc (Nat.le_refl _) _
  have hX : Block (u.alloc (.cells (l.map Value.string).toArray 9)) u.heap.size (l.map Value.string) 9 := Block.new _ _ _
  have hI1 := hI.below hb1
  refine (touch_any _ W.heap.size P bk (OwnB P lv rs) who l _ l.length ⟨tag, lv, rs, hI1, fun _ h => h⟩ (fun w' hk => block_row (hX.of_heap (hk.block _ hX.lt (fun hm => by have := (hI.ownlt hm).2; omega)))) (by have := ho.len; omega) (fun e he => ⟨(ho.srt e he).2, by have := (ho.lim e he).2; omega⟩) (by omega)).mono ?_
  rintro e w' ⟨h1, h2⟩
  exact ⟨h1, Held.step hI1 (hb.trans (hb1.mono hb.size)) h2⟩
theorem held_close {W u : World} {P n : Nat} {bk : Bk} (who end_ : Int) (h : Held W P bk u) (ho : OkBk n bk) (hn : n ≤ 1000) : Calls Try.prog 14 #[.pointer (some ⟨P, 0, none⟩), .int .i64 who, .int .i64 end_] u fun e w' => e = .returned (.int .i64 (closeB bk who end_).1) ∧ Held W P (closeB bk who end_).2 w' := by
  obtain ⟨⟨tag, lv, rs, hI⟩, hb⟩ := h
  refine (close_any u W.heap.size P bk (OwnB P lv rs) who end_ ⟨tag, lv, rs, hI, fun _ h => h⟩ (by have := ho.len; omega) (ho.small hn) ho.out).mono ?_
  rintro e w' ⟨h1, h2⟩
  exact ⟨h1, Held.step hI hb h2⟩
theorem held_drop {W u : World} {P n : Nat} {bk : Bk} (who : Int) (h : Held W P bk u) (ho : OkBk n bk) (hn : n ≤ 1000) : Calls Try.prog 16 #[.pointer (some ⟨P, 0, none⟩), .int .i64 who] u fun e w' => e = .returned (.int .i64 (dropB bk who).1) ∧ Held W P (dropB bk who).2 w' := by
  obtain ⟨⟨tag, lv, rs, hI⟩, hb⟩ := h
  refine (drop_any u W.heap.size P bk (OwnB P lv rs) who ⟨tag, lv, rs, hI, fun _ h => h⟩ (by have := ho.len; omega)).mono ?_
  rintro e w' ⟨h1, h2⟩
  exact ⟨h1, Held.step hI hb h2⟩
theorem held_flags {W u : World} {P n : Nat} {bk : Bk} (who : Int) (h : Held W P bk u) (ho : OkBk n bk) (hn : n ≤ 1000) : Calls Try.prog 18 #[.pointer (some ⟨P, 0, none⟩), .int .i64 who] u fun e w' => e = .returned (.tuple #[.bool (flagsB bk.es who).1, .bool (flagsB bk.es who).2]) ∧ Below u.heap.size u w' := by
  obtain ⟨⟨tag, lv, rs, hI⟩, hb⟩ := h
  exact flags_any u W.heap.size P bk tag lv rs who hI (ho.small hn)
theorem held_size {W u : World} {P : Nat} {bk : Bk} (h : Held W P bk u) : Calls Try.prog 20 #[.pointer (some ⟨P, 0, none⟩)] u fun e w' => e = .returned (.int .i64 bk.es.length) ∧ u = w' := by
  obtain ⟨⟨tag, lv, rs, hI⟩, hb⟩ := h
  exact size_any u W.heap.size P bk tag lv rs hI
theorem held_last {W u : World} {P : Nat} {bk : Bk} (h : Held W P bk u) : Calls Try.prog 21 #[.pointer (some ⟨P, 0, none⟩)] u fun e w' => e = .returned (.int .i64 bk.last) ∧ u = w' := by
  obtain ⟨⟨tag, lv, rs, hI⟩, hb⟩ := h
  exact last_any u W.heap.size P bk tag lv rs hI
/-- What the acts keep. -/
theorem OkBk.mono {n m : Nat} {bk : Bk} (h : OkBk n bk) (hm : n ≤ m) : OkBk m bk :=
  ⟨by have := h.len; omega, h.srt, fun e he => by have := h.lim e he; constructor <;> omega, h.out, h.pos, h.last⟩
theorem OkBk.sub {n : Nat} {bk : Bk} {es : List E} (h : OkBk n bk) (hs : es.Sublist bk.es) : OkBk n ⟨es, bk.last⟩ :=
  ⟨Nat.le_trans hs.length_le h.len, fun e he => h.srt e (hs.subset he), fun e he => h.lim e (hs.subset he), fun e he => h.out e (hs.subset he), fun e he => h.pos e (hs.subset he), h.last⟩
theorem sortedS_nil : SortedS [] := by simp [SortedS]
theorem okBk_new : OkBk 0 ⟨[], 0⟩ := ⟨Nat.le_refl _, by simp, by simp, by simp, by simp, Int.le_refl 0⟩
theorem OkBk.open_ {n : Nat} {bk : Bk} (h : OkBk n bk) (who at_ : Int) : OkBk (n + 1) (openB bk who at_).2 := by
  unfold openB
  split
  · exact h.mono (by omega)
  · split
    · exact h.mono (by omega)
    · have hm := h.mono (Nat.le_succ n)
      have hall : ∀ (p : E → Prop), (∀ e ∈ bk.es, p e) → p ⟨who, at_, 0, [], [], false⟩ → ∀ e ∈ bk.es ++ [⟨who, at_, 0, [], [], false⟩], p e := fun p h1 h2 e he => by
        rcases List.mem_append.1 he with he | he
        · exact h1 e he
        · rw [List.mem_singleton.1 he]; exact h2
      exact ⟨by have := h.len; simp; omega, hall _ h.srt ⟨sortedS_nil, sortedS_nil⟩, hall _ hm.lim ⟨by simp, by simp⟩, hall _ h.out (fun _ => rfl), hall _ h.pos (Int.le_refl 0), h.last⟩
theorem modify_all {k : Nat} {es : List E} {f : E → E} {p : E → Prop} (h1 : ∀ e ∈ es, p e) (h2 : ∀ e ∈ es, p e → p (f e)) : ∀ e ∈ es.modify k f, p e := by
  intro e he
  obtain ⟨i, hi⟩ := List.mem_iff_getElem?.1 he
  rcases modify_get hi with ⟨rfl, y, hy, rfl⟩ | ⟨_, hy⟩
  · exact h2 y (List.mem_of_getElem? hy) (h1 y (List.mem_of_getElem? hy))
  · exact h1 e (List.mem_of_getElem? hy)
theorem OkBk.read {n : Nat} {bk : Bk} (h : OkBk n bk) (who : Int) (l : List ByteArray) (hl : l.length ≤ 1048576) : OkBk (n + 1) (readB bk who l).2 := by
  unfold readB
  split
  · exact h.mono (by omega)
  · have hm := h.mono (Nat.le_succ n)
    refine ⟨by show (bk.es.modify _ _).length ≤ _; rw [List.length_modify]; exact hm.len, modify_all h.srt (fun e he hs => ⟨addS_sorted hs.1, hs.2⟩), ?_, modify_all h.out (fun e he hs => hs), modify_all h.pos (fun e he hs => hs), h.last⟩
    intro e he
    obtain ⟨i, hi⟩ := List.mem_iff_getElem?.1 he
    rcases modify_get hi with ⟨rfl, y, hy, rfl⟩ | ⟨_, hy⟩
    · have h1 := h.lim y (List.mem_of_getElem? hy)
      have h2 := addS_len l y.reads
      constructor
      · show (addS y.reads l).length ≤ _; omega
      · show y.touches.length ≤ _; omega
    · exact hm.lim e (List.mem_of_getElem? hy)
theorem OkBk.touch {n : Nat} {bk : Bk} (h : OkBk n bk) (who : Int) (l : List ByteArray) (hl : l.length ≤ 1048576) : OkBk (n + 1) (touchB bk who l).2 := by
  unfold touchB
  split
  · exact h.mono (by omega)
  · have hm := h.mono (Nat.le_succ n)
    refine ⟨by show (bk.es.modify _ _).length ≤ _; rw [List.length_modify]; exact hm.len, modify_all h.srt (fun e he hs => ⟨hs.1, addS_sorted hs.2⟩), ?_, modify_all h.out (fun e he hs => hs), modify_all h.pos (fun e he hs => hs), h.last⟩
    intro e he
    obtain ⟨i, hi⟩ := List.mem_iff_getElem?.1 he
    rcases modify_get hi with ⟨rfl, y, hy, rfl⟩ | ⟨_, hy⟩
    · have h1 := h.lim y (List.mem_of_getElem? hy)
      have h2 := addS_len l y.touches
      constructor
      · show y.reads.length ≤ _; omega
      · show (addS y.touches l).length ≤ _; omega
    · exact hm.lim e (List.mem_of_getElem? hy)
theorem OkBk.drop {n : Nat} {bk : Bk} (h : OkBk n bk) (who : Int) : OkBk n (dropB bk who).2 := by
  unfold dropB
  split
  · exact h
  · exact h.sub (List.filter_sublist.trans (List.eraseIdx_sublist _ _))
theorem OkBk.close {n : Nat} {bk : Bk} (h : OkBk n bk) (who end_ : Int) : OkBk n (closeB bk who end_).2 := by
  unfold closeB
  split
  · exact h
  · split
    · exact h
    · rename_i k hk hle
      split
      · exact h.drop who
      · have hl := h.last
        have h1 : OkBk n ⟨bk.es.modify k fun e => { e with end_ := end_, out := (List.range bk.es.length).any (conB bk.es k) }, end_⟩ :=
          ⟨by show (bk.es.modify _ _).length ≤ _; rw [List.length_modify]; exact h.len, modify_all h.srt (fun e he hs => hs), modify_all h.lim (fun e he hs => hs), modify_all h.out (fun e he hs h0 => by exfalso; have : end_ = 0 := h0; omega), modify_all h.pos (fun e he hs => by show 0 ≤ end_; omega), by show 0 ≤ end_; omega⟩
        exact h1.sub List.filter_sublist
end Go.Proofs.Ytaonfacbmolklaa

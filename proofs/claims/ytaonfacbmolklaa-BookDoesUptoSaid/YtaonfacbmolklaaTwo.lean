/- The program's book and the reference's in one world, apart. Conditions: sizes are small. -/
import Derived.Test.YtaonfacbmolklaaRf8
import Derived.Test.YtaonfacbmolklaaOps
import Derived.Test.YtaonfacbmolklaaWorks
namespace Go.Proofs.Ytaonfacbmolklaa
open Go.RowKit
set_option linter.unusedSimpArgs false
set_option linter.unusedVariables false

/-- Both books, above all that the law was given. -/
def TwoL (W : World) (Pb Pr : Nat) (b1 b2 : Bk) (N : Nat → Prop) (u : World) : Prop :=
  (∃ S1 S2, BookAt u W.heap.size Pb b1 S1 ∧ RefAt u W.heap.size Pr b2 S2 ∧ (∀ k, S1 k → ¬ S2 k) ∧ (∀ k, S1 k ∨ S2 k → W.heap.size ≤ k ∧ k < u.heap.size ∧ ¬ N k)) ∧ Below W.heap.size W u
/-- .. and the act's own block. -/
def TwoO (W : World) (Pb Pr : Nat) (b1 b2 : Bk) (ob : Nat) (cs : List Value) (u : World) : Prop :=
  TwoL W Pb Pr b1 b2 (fun k => k = ob) u ∧ Block u ob cs 31 ∧ W.heap.size ≤ ob
theorem TwoL.below {W u w' : World} {Pb Pr : Nat} {b1 b2 : Bk} {N : Nat → Prop} (h : TwoL W Pb Pr b1 b2 N u) (hb : Below u.heap.size u w') : TwoL W Pb Pr b1 b2 N w' := by
  obtain ⟨⟨S1, S2, h1, h2, h3, h4⟩, h5⟩ := h
  exact ⟨⟨S1, S2, h1.below hb, h2.below hb, h3, fun k hk => by have h6 := h4 k hk; have := hb.size; exact ⟨by omega, by omega, h6.2.2⟩⟩, h5.trans (hb.mono h5.size)⟩
theorem TwoO.below {W u w' : World} {Pb Pr ob : Nat} {b1 b2 : Bk} {cs : List Value} (h : TwoO W Pb Pr b1 b2 ob cs u) (hb : Below u.heap.size u w') : TwoO W Pb Pr b1 b2 ob cs w' :=
  ⟨h.1.below hb, h.2.1.below hb h.2.1.lt, h.2.2⟩
theorem TwoO.drew {W u : World} {Pb Pr ob : Nat} {b1 b2 : Bk} {cs : List Value} (h : TwoO W Pb Pr b1 b2 ob cs u) : TwoO W Pb Pr b1 b2 ob cs u.drew := h.below (Below.refl _ _).drew
theorem TwoL.own {W u : World} {Pb Pr : Nat} {b : Bk} (cs : List Value) (h : TwoL W Pb Pr b b (fun _ => False) u) : TwoO W Pb Pr b b u.heap.size cs (u.alloc (.cells cs.toArray 31)) := by
  have hb : Below u.heap.size u (u.alloc (.cells cs.toArray 31)) := (Below.refl _ _).alloc (Nat.le_refl _) _
  have hz := h.2.size
  obtain ⟨⟨S1, S2, h1, h2, h3, h4⟩, h5⟩ := h
  exact ⟨⟨⟨S1, S2, h1.below hb, h2.below hb, h3, fun k hk => by have := h4 k hk; have := hb.size; exact ⟨by omega, by omega, by omega⟩⟩, h5.trans (hb.mono h5.size)⟩, Block.new _ _ _, hz⟩
theorem TwoO.off {W u : World} {Pb Pr ob : Nat} {b1 b2 : Bk} {cs : List Value} (h : TwoO W Pb Pr b1 b2 ob cs u) : TwoL W Pb Pr b1 b2 (fun _ => False) u := by
  obtain ⟨⟨⟨S1, S2, h1, h2, h3, h4⟩, h5⟩, _⟩ := h
  exact ⟨⟨S1, S2, h1, h2, h3, fun k hk => by have := h4 k hk; exact ⟨by omega, by omega, fun h => h⟩⟩, h5⟩
/-- An act on the program's book. -/
theorem TwoO.prog {W u : World} {Pb Pr ob : Nat} {b1 b1' b2 : Bk} {cs : List Value} {f : FuncId} {args : Array Value} {v : Value} (h : TwoO W Pb Pr b1 b2 ob cs u)
    (hc : ∀ S : Nat → Prop, BookAt u W.heap.size Pb b1 S → (∀ k, S k → W.heap.size ≤ k) → Calls Try.prog f args u fun e w' => e = .returned v ∧ Acted u W.heap.size Pb b1' S w') :
    Calls Try.prog f args u fun e w' => e = .returned v ∧ TwoO W Pb Pr b1' b2 ob cs w' := by
  obtain ⟨⟨⟨S1, S2, h1, h2, h3, h4⟩, h5⟩, h6, h7⟩ := h
  refine (hc S1 h1 (fun k hk => (h4 k (.inl hk)).1)).mono ?_
  rintro e w' ⟨rfl, ha, hk⟩
  have hz := hk.size
  have hz2 := h5.size
  refine ⟨rfl, ⟨⟨grow S1 u w', S2, ha, h2.kept hk (fun k hs hs1 => h3 k hs1 hs), fun k hk1 hs => ?_, fun k hk1 => ?_⟩, ?_⟩, ?_, h7⟩
  · rcases hk1 with hk1 | hk1
    · exact h3 k hk1 hs
    · have := (h4 k (.inr hs)).2.1; omega
  · rcases hk1 with (hk1 | hk1) | hk1
    · have := h4 k (.inl hk1); exact ⟨by omega, by omega, by omega⟩
    · have := h6.lt; exact ⟨by omega, by omega, by omega⟩
    · have := h4 k (.inr hk1); exact ⟨by omega, by omega, by omega⟩
  · exact h5.trans (hk.below (fun x hx => (h4 x (.inl hx)).1) hz2)
  · exact h6.of_heap (hk.block ob h6.lt (fun hs => (h4 ob (.inl hs)).2.2 rfl))
/-- An act on the reference's book. -/
theorem TwoO.ref {W u : World} {Pb Pr ob : Nat} {b1 b2' b2 : Bk} {cs : List Value} {f : FuncId} {args : Array Value} {v : Value} (h : TwoO W Pb Pr b1 b2 ob cs u)
    (hc : ∀ S : Nat → Prop, RefAt u W.heap.size Pr b2 S → (∀ k, S k → W.heap.size ≤ k) → Calls Try.prog f args u fun e w' => e = .returned v ∧ RActed u W.heap.size Pr b2' S w') :
    Calls Try.prog f args u fun e w' => e = .returned v ∧ TwoO W Pb Pr b1 b2' ob cs w' := by
  obtain ⟨⟨⟨S1, S2, h1, h2, h3, h4⟩, h5⟩, h6, h7⟩ := h
  refine (hc S2 h2 (fun k hk => (h4 k (.inr hk)).1)).mono ?_
  rintro e w' ⟨rfl, ha, hk⟩
  have hz := hk.size
  have hz2 := h5.size
  refine ⟨rfl, ⟨⟨S1, grow S2 u w', h1.kept hk (fun k hs hs1 => h3 k hs hs1), ha, fun k hs hk1 => ?_, fun k hk1 => ?_⟩, ?_⟩, ?_, h7⟩
  · rcases hk1 with hk1 | hk1
    · exact h3 k hs hk1
    · have := (h4 k (.inl hs)).2.1; omega
  · rcases hk1 with hk1 | (hk1 | hk1)
    · have := h4 k (.inl hk1); exact ⟨by omega, by omega, by omega⟩
    · have := h4 k (.inr hk1); exact ⟨by omega, by omega, by omega⟩
    · have := h6.lt; exact ⟨by omega, by omega, by omega⟩
  · exact h5.trans (hk.below (fun x hx => (h4 x (.inr hx)).1) hz2)
  · exact h6.of_heap (hk.block ob h6.lt (fun hs => (h4 ob (.inr hs)).2.2 rfl))
section
variable {W u : World} {Pb Pr ob n : Nat} {b1 b2 : Bk} {cs : List Value}
theorem two_open (who at_ : Int) (h : TwoO W Pb Pr b1 b2 ob cs u) (ho : OkBk n b1) (hn : n ≤ 1000) : Calls Try.prog 8 #[.pointer (some ⟨Pb, 0, none⟩), .int .i64 who, .int .i64 at_] u fun e w' => e = .returned (.int .i64 (openB b1 who at_).1) ∧ TwoO W Pb Pr (openB b1 who at_).2 b2 ob cs w' :=
  h.prog fun S hS hB => open_any u W.heap.size Pb b1 S who at_ hS (by have := ho.len; omega)
theorem two_ropen (who at_ : Int) (h : TwoO W Pb Pr b1 b2 ob cs u) (ho : OkBk n b2) (hn : n ≤ 1000) : Calls Try.prog 9 #[.pointer (some ⟨Pr, 0, none⟩), .int .i64 who, .int .i64 at_] u fun e w' => e = .returned (.int .i64 (openB b2 who at_).1) ∧ TwoO W Pb Pr b1 (openB b2 who at_).2 ob cs w' :=
  h.ref fun S hS hB => ropen_any u W.heap.size Pr b2 S who at_ hS (by have := ho.len; omega)
theorem two_read (who : Int) {l : List ByteArray} {ma : Option Addr} (mc : Nat) (h : TwoO W Pb Pr b1 b2 ob cs u) (ho : OkBk n b1) (hn : n ≤ 1000) (hm : StrRow W.heap.size W ma l) (hl : l.length ≤ 1048576) : Calls Try.prog 10 #[.pointer (some ⟨Pb, 0, none⟩), .int .i64 who, .slice ma l.length mc] u fun e w' => e = .returned (.int .i64 (readB b1 who l).1) ∧ TwoO W Pb Pr (readB b1 who l).2 b2 ob cs w' := by
  have hw := h.1.2
  exact h.prog fun S hS hB => read_any u W.heap.size Pb b1 S who l ma mc hS (fun w' hk => row_below hm (hw.trans (hk.below hB hw.size))) (by have := ho.len; omega) (fun e he => ⟨(ho.srt e he).1, by have := (ho.lim e he).1; omega⟩) (by omega)
theorem two_rread (who : Int) {l : List ByteArray} {ma : Option Addr} (mc : Nat) (h : TwoO W Pb Pr b1 b2 ob cs u) (ho : OkBk n b2) (hn : n ≤ 1000) (hm : StrRow W.heap.size W ma l) (hl : l.length ≤ 1048576) : Calls Try.prog 11 #[.pointer (some ⟨Pr, 0, none⟩), .int .i64 who, .slice ma l.length mc] u fun e w' => e = .returned (.int .i64 (readB b2 who l).1) ∧ TwoO W Pb Pr b1 (readB b2 who l).2 ob cs w' := by
  have hw := h.1.2
  exact h.ref fun S hS hB => rread_any u W.heap.size Pr b2 S who l ma mc hS (fun w' hk => row_below hm (hw.trans (hk.below hB hw.size))) (by have := ho.len; omega) (fun e he => ⟨(ho.srt e he).1, by have := (ho.lim e he).1; omega⟩)
theorem two_touch (who : Int) {l : List ByteArray} {ma : Option Addr} (mc : Nat) (h : TwoO W Pb Pr b1 b2 ob cs u) (ho : OkBk n b1) (hn : n ≤ 1000) (hm : StrRow W.heap.size W ma l) (hl : l.length ≤ 1048576) : Calls Try.prog 12 #[.pointer (some ⟨Pb, 0, none⟩), .int .i64 who, .slice ma l.length mc] u fun e w' => e = .returned (.int .i64 (touchB b1 who l).1) ∧ TwoO W Pb Pr (touchB b1 who l).2 b2 ob cs w' := by
  have hw := h.1.2
  exact h.prog fun S hS hB => touch_any u W.heap.size Pb b1 S who l ma mc hS (fun w' hk => row_below hm (hw.trans (hk.below hB hw.size))) (by have := ho.len; omega) (fun e he => ⟨(ho.srt e he).2, by have := (ho.lim e he).2; omega⟩) (by omega)
theorem two_rtouch (who : Int) {l : List ByteArray} {ma : Option Addr} (mc : Nat) (h : TwoO W Pb Pr b1 b2 ob cs u) (ho : OkBk n b2) (hn : n ≤ 1000) (hm : StrRow W.heap.size W ma l) (hl : l.length ≤ 1048576) : Calls Try.prog 13 #[.pointer (some ⟨Pr, 0, none⟩), .int .i64 who, .slice ma l.length mc] u fun e w' => e = .returned (.int .i64 (touchB b2 who l).1) ∧ TwoO W Pb Pr b1 (touchB b2 who l).2 ob cs w' := by
  have hw := h.1.2
  exact h.ref fun S hS hB => rtouch_any u W.heap.size Pr b2 S who l ma mc hS (fun w' hk => row_below hm (hw.trans (hk.below hB hw.size))) (by have := ho.len; omega) (fun e he => ⟨(ho.srt e he).2, by have := (ho.lim e he).2; omega⟩)
theorem two_close (who end_ : Int) (h : TwoO W Pb Pr b1 b2 ob cs u) (ho : OkBk n b1) (hn : n ≤ 1000) : Calls Try.prog 14 #[.pointer (some ⟨Pb, 0, none⟩), .int .i64 who, .int .i64 end_] u fun e w' => e = .returned (.int .i64 (closeB b1 who end_).1) ∧ TwoO W Pb Pr (closeB b1 who end_).2 b2 ob cs w' :=
  h.prog fun S hS hB => close_any u W.heap.size Pb b1 S who end_ hS (by have := ho.len; omega) (ho.small hn) ho.out
theorem two_rclose (who end_ : Int) (h : TwoO W Pb Pr b1 b2 ob cs u) (ho : OkBk n b2) (hn : n ≤ 1000) : Calls Try.prog 15 #[.pointer (some ⟨Pr, 0, none⟩), .int .i64 who, .int .i64 end_] u fun e w' => e = .returned (.int .i64 (closeB b2 who end_).1) ∧ TwoO W Pb Pr b1 (closeB b2 who end_).2 ob cs w' :=
  h.ref fun S hS hB => rclose_any u W.heap.size Pr b2 S who end_ hS (by have := ho.len; omega) (ho.small hn) ho.pos
theorem two_drop (who : Int) (h : TwoO W Pb Pr b1 b2 ob cs u) (ho : OkBk n b1) (hn : n ≤ 1000) : Calls Try.prog 16 #[.pointer (some ⟨Pb, 0, none⟩), .int .i64 who] u fun e w' => e = .returned (.int .i64 (dropB b1 who).1) ∧ TwoO W Pb Pr (dropB b1 who).2 b2 ob cs w' :=
  h.prog fun S hS hB => drop_any u W.heap.size Pb b1 S who hS (by have := ho.len; omega)
theorem two_rdrop (who : Int) (h : TwoO W Pb Pr b1 b2 ob cs u) (ho : OkBk n b2) (hn : n ≤ 1000) : Calls Try.prog 17 #[.pointer (some ⟨Pr, 0, none⟩), .int .i64 who] u fun e w' => e = .returned (.int .i64 (dropB b2 who).1) ∧ TwoO W Pb Pr b1 (dropB b2 who).2 ob cs w' :=
  h.ref fun S hS hB => rdrop_any u W.heap.size Pr b2 S who hS (by have := ho.len; omega)
theorem two_flags (who : Int) (h : TwoO W Pb Pr b1 b2 ob cs u) (ho : OkBk n b1) (hn : n ≤ 1000) : Calls Try.prog 18 #[.pointer (some ⟨Pb, 0, none⟩), .int .i64 who] u fun e w' => e = .returned (.tuple #[.bool (flagsB b1.es who).1, .bool (flagsB b1.es who).2]) ∧ TwoO W Pb Pr b1 b2 ob cs w' := by
  have h0 := h
  obtain ⟨⟨⟨S1, S2, ⟨tag, lv, rs, hI, _⟩, _⟩, _⟩, _⟩ := h
  exact (flags_any u W.heap.size Pb b1 tag lv rs who hI (ho.small hn)).mono fun e w' ⟨he, hb⟩ => ⟨he, h0.below hb⟩
theorem two_rflags (who : Int) (h : TwoO W Pb Pr b1 b2 ob cs u) (ho : OkBk n b2) (hn : n ≤ 1000) : Calls Try.prog 19 #[.pointer (some ⟨Pr, 0, none⟩), .int .i64 who] u fun e w' => e = .returned (.tuple #[.bool (flagsB b2.es who).1, .bool (flagsB b2.es who).2]) ∧ TwoO W Pb Pr b1 b2 ob cs w' := by
  have h0 := h
  obtain ⟨⟨⟨S1, S2, _, ⟨lv, zs, hI, hes⟩, _⟩, _⟩, _⟩ := h
  have hsm : SmallZ zs := ⟨by have h1 : zs.length = b2.es.length := by rw [← hes, List.length_map]
                              have := ho.len; omega, fun z hz => by
    have h1 : z.1 ∈ b2.es := by rw [← hes]; exact List.mem_map_of_mem hz
    have h2 := (ho.small hn).2 z.1 h1
    omega⟩
  have h1 := rflags_any u W.heap.size Pr b2.last who S2 lv zs hI hsm
  rw [hes] at h1
  exact h1.mono fun e w' ⟨he, hb⟩ => ⟨he, h0.below hb⟩
theorem two_size (h : TwoO W Pb Pr b1 b2 ob cs u) : Calls Try.prog 20 #[.pointer (some ⟨Pb, 0, none⟩)] u fun e w' => e = .returned (.int .i64 b1.es.length) ∧ u = w' := by
  obtain ⟨⟨⟨S1, S2, ⟨tag, lv, rs, hI, _⟩, _⟩, _⟩, _⟩ := h
  exact size_any u W.heap.size Pb b1 tag lv rs hI
theorem two_last (h : TwoO W Pb Pr b1 b2 ob cs u) : Calls Try.prog 21 #[.pointer (some ⟨Pb, 0, none⟩)] u fun e w' => e = .returned (.int .i64 b1.last) ∧ u = w' := by
  obtain ⟨⟨⟨S1, S2, ⟨tag, lv, rs, hI, _⟩, _⟩, _⟩, _⟩ := h
  exact last_any u W.heap.size Pb b1 tag lv rs hI
theorem two_cells (h : TwoO W Pb Pr b1 b2 ob cs u) : ∃ a c, Pr < u.heap.size ∧ u.cell? ⟨Pr, 0, none⟩ = some (.slice a b2.es.length c) ∧ u.cell? ⟨Pr, 1, none⟩ = some (.int .i64 b2.last) := by
  obtain ⟨⟨⟨S1, S2, _, ⟨lv, zs, hI, hes⟩, _⟩, _⟩, _⟩ := h
  obtain ⟨a, c, rfl⟩ := own_form hI.row
  have h1 : zs.length = b2.es.length := by rw [← hes, List.length_map]
  rw [← h1]
  exact ⟨a, c, hI.blk.lt, hI.blk.cell rfl, hI.blk.cell rfl⟩
end
/-- At the beginning. -/
theorem two_start {W u0 : World} (hb : Below W.heap.size W u0) (hz : u0.heap.size = W.heap.size + 1) (h : BookAt u0 W.heap.size W.heap.size ⟨[], 0⟩ (fun k => k = W.heap.size)) :
    TwoL W W.heap.size u0.heap.size ⟨[], 0⟩ ⟨[], 0⟩ (fun _ => False) (u0.alloc (.cells #[.slice none 0 0, .int .i64 0] 28)) := by
  have hb1 : Below u0.heap.size u0 (u0.alloc (.cells #[.slice none 0 0, .int .i64 0] 28)) := (Below.refl _ _).alloc (Nat.le_refl _) _
  have hz1 : (u0.alloc (.cells #[.slice none 0 0, .int .i64 0] 28)).heap.size = u0.heap.size + 1 := by simp
  refine ⟨⟨_, fun k => k = u0.heap.size, h.below hb1, ⟨.slice none 0 0, [], ⟨Block.new u0 [.slice none 0 0, .int .i64 0] _, (fun k hk => by omega), rfl, World.ownsRow_nil _ _ _ _, (fun g e => by cases e), (fun z hz => by simp at hz)⟩, rfl⟩, fun k h1 h2 => by omega, fun k hk => ?_⟩, hb.trans (hb1.mono hb.size)⟩
  rcases hk with rfl | rfl
  · exact ⟨Nat.le_refl _, by omega, fun h => h⟩
  · exact ⟨by omega, by omega, fun h => h⟩
def Mid0 (A : Act) (R : World → Prop) : Exit → Act → World → Prop
  | .normal, a, w => R w ∧ a = A
  | _, _, _ => False
theorem wp_mid0 {P : Program} {c : Code} {Q : Exit → Act → World → Prop} {a : Act} {w : World} (A : Act) (R : World → Prop) (h : c.wp P (Mid0 A R) a w) (k : ∀ w1, R w1 → Q .normal A w1) : c.wp P Q a w := by
  refine Code.wp_mono ?_ h
  intro e a w h
  cases e with
  | normal =>
    obtain ⟨hr, rfl⟩ := h
    exact k w hr
  | _ => exact h.elim
end Go.Proofs.Ytaonfacbmolklaa

/- Layer 9: rows of bytes; the contract of slices.Clone. Conditions: none. -/
import Derived.Test.YteopfknoemifgaaProg
import Derived.Test.YteopfknoemifgaaRow
import Derived.Test.YteopfknoemifgaaMap
import Derived.Deep.QuietTactic
import Derived.BigQuiet
namespace Go.Proofs.Yteopfknoemifgaa
open Go.RowKit
set_option linter.unusedSimpArgs false
set_option linter.unusedVariables false

def bys (l : List UInt8) : List Value := l.map fun c => .int .u8 c.toNat
theorem bys_length (l : List UInt8) : (bys l).length = l.length := by simp [bys]
theorem bys_append (l m : List UInt8) : bys (l ++ m) = bys l ++ bys m := by simp [bys]
theorem bys_take (l : List UInt8) (n : Nat) : (bys l).take n = bys (l.take n) := by simp [bys, List.map_take]
theorem bys_drop (l : List UInt8) (n : Nat) : (bys l).drop n = bys (l.drop n) := by simp [bys, List.map_drop]
theorem bys_one (l : List UInt8) : ∀ u ∈ bys l, u.oneCell' = true := by
  intro u hu; simp [bys] at hu; obtain ⟨c, _, rfl⟩ := hu; rfl
theorem Try.infoB : (Try.prog.info? 5).map (fun i => (i.zero, i.size, i.bytes)) = some (some (.int .u8 0), 1, 1) := by kernel_rfl

/-- A row of these bytes that belongs to the call, in a block from B on. -/
def IsBytes (w : World) (B : Nat) (a : Option Addr) (cap : Nat) (l : List UInt8) : Prop := w.ownsRow B 5 1 (.slice a l.length cap) l.length (bys l)
theorem IsBytes.of_heap {w w' : World} {B : Nat} {a : Option Addr} {cap : Nat} {l : List UInt8} (h : IsBytes w B a cap l) (hh : ∀ x, a = some x → w'.heap[x.block]? = w.heap[x.block]?) : IsBytes w' B a cap l :=
  own_of_heap h fun k hk => by
    cases a with
    | none => cases hk
    | some x => simp [Value.ownBlock] at hk; subst hk; exact hh x rfl
theorem IsBytes.mono {w : World} {B B' : Nat} {a : Option Addr} {cap : Nat} {l : List UInt8} (h : IsBytes w B a cap l) (hb : B' ≤ B) : IsBytes w B' a cap l := own_mono h hb
theorem IsBytes.lt {w : World} {B : Nat} {a : Option Addr} {cap : Nat} {l : List UInt8} (h : IsBytes w B a cap l) : ∀ x, a = some x → B ≤ x.block ∧ x.block < w.heap.size := fun x hx => World.ownsRow.lt h x.block (by rw [hx]; rfl)
theorem IsBytes.cells {w : World} {B : Nat} {a : Option Addr} {cap : Nat} {l : List UInt8} (h : IsBytes w B a cap l) : Cells w.heap.size w a (bys l) := own_cells_of h
theorem IsBytes.capz {w : World} {B : Nat} {a : Option Addr} {cap : Nat} {l : List UInt8} (h : IsBytes w B a cap l) : a = none → cap = 0 := own_capz h
theorem IsBytes.cap_le {w : World} {B : Nat} {a : Option Addr} {cap : Nat} {l : List UInt8} (h : IsBytes w B a cap l) : l.length ≤ cap ∧ cap ≤ maxLen := own_cap h
theorem IsBytes.head {w : World} {B : Nat} {a : Option Addr} {cap : Nat} {l : List UInt8} (h : IsBytes w B a cap l) : ∀ x, a = some x → x = ⟨x.block, 0, none⟩ := by
  intro x hx
  rcases h.2 with ⟨h2, _⟩ | ⟨g, c, cur, h2, _⟩
  · subst hx; cases h2
  · subst hx; injection h2 with e1; injection e1 with e1; rw [e1]

theorem clone_any (w : World) (a : Option Addr) (n cap B : Nat) (l : List UInt8) (hn : n = l.length) (hc : Cells B w a (bys l)) (hnone : a = none → cap = 0) (hm : l.length ≤ 140737488351232) :
    Calls Try.prog 32 #[.slice a n cap] w fun e w' => ∃ a' cap', e = .returned (.slice a' n cap') ∧ IsBytes w' w.heap.size a' cap' l ∧ Below w.heap.size w w' := by
  obtain ⟨i0, hi0, hz0, hz1, hz2⟩ := info_parts Try.infoB
  have hnil := fun (w : World) (a : Option Addr) (l c : Nat) => Lib.run_eql_slice_nil (P := Try.prog) w 30 5 a l c 0 0 Try.underlying30
  cases a with
  | none =>
    have hl : l = [] := by
      rcases hc with h | ⟨b, off, h, _⟩
      · simpa [bys] using h
      · cases h
    subst hl
    obtain rfl := hnone rfl
    simp at hn; subst hn
    clear hc hnone
    go_enter Try.func32, Try.ntmps32
    go_wp2_with fail
    go_ret
    exact ⟨none, 0, rfl, World.ownsRow_nil _ _ _ _, Below.refl _ _⟩
  | some ad =>
    subst hn
    have hown : (w.alloc (.cells #[] 5)).ownsRow w.heap.size 5 1 (.slice (some ⟨w.heap.size, 0, none⟩) 0 0) 0 [] := World.ownsRow_made w #[] 0 (Nat.le_refl _) (Nat.zero_le _) (by simp)
    have HC := Lib.hid hc
    clear hc hnone
    go_enter Try.func32, Try.ntmps32
    go_wp2_with (at_builtin; refine wpList_append_rows rfl _ _ 30 rfl w.heap.size 5 i0 _ 1 1 Try.underlying30 hi0 hz0 hz1 hz2 rfl (by decide) _ 0 [] rfl hown _ l.length cap B (bys l) rfl (by intro h; cases h) (by simp [bys_length]) (HC.out.alloc' _) (bys_one l) (by unfold maxLen; omega) (by omega) (by simp) ?_)
    intro a' cap' w' h1 h2 h3
    go_wp2_with fail
    go_ret
    exact ⟨a', cap', rfl, h1, ((Below.refl _ _).alloc (Nat.le_refl _) _).grown h2 (by simp) (fun k hk => by simp [Value.ownBlock] at hk; omega)⟩

/-- A connection. -/
structure Line where
  way : List UInt8
  back : List UInt8
  cut : Bool

/-- Of what was there in w nothing has turned but the blocks of S. -/
structure KeptP (S : Nat → Prop) (w w' : World) : Prop where
  os : w'.os = w.os
  tape : w'.tape = w.tape
  output : w'.output = w.output
  size : w.heap.size ≤ w'.heap.size
  block : ∀ k, k < w.heap.size → ¬ S k → w'.heap[k]? = w.heap[k]?
theorem KeptP.refl (S : Nat → Prop) (w : World) : KeptP S w w := ⟨rfl, rfl, rfl, Nat.le_refl _, fun _ _ _ => rfl⟩
theorem KeptP.trans {S S' : Nat → Prop} {a b c : World} (h : KeptP S a b) (k : KeptP S' b c) (hs : ∀ x, S' x → S x ∨ a.heap.size ≤ x) : KeptP S a c :=
  ⟨k.os.trans h.os, k.tape.trans h.tape, k.output.trans h.output, Nat.le_trans h.size k.size, fun x hx hn => by
    rw [k.block x (Nat.lt_of_lt_of_le hx h.size) (fun hm => by rcases hs x hm with h1 | h1; exact hn h1; omega), h.block x hx hn]⟩
theorem KeptP.below {S : Nat → Prop} {B : Nat} {w w' : World} (h : KeptP S w w') (hB : ∀ x, S x → B ≤ x) (hs : B ≤ w.heap.size) : Below B w w' :=
  ⟨h.os, h.tape, h.output, h.size, fun k hk => h.block k (by omega) (fun hm => by have := hB k hm; omega)⟩
theorem KeptP.of_below {S : Nat → Prop} {w w' : World} (h : Below w.heap.size w w') : KeptP S w w' := ⟨h.os, h.tape, h.output, h.size, fun k hk _ => h.block k hk⟩
theorem KeptP.setCell {S : Nat → Prop} {a w : World} (h : KeptP S a w) {p : Addr} (hp : S p.block ∨ a.heap.size ≤ p.block) (v : Value) : KeptP S a (w.setCell p v) :=
  ⟨h.os, h.tape, h.output, by simpa [World.setCell] using h.size, fun k hk hn => by
    rw [Below.heap_setCell _ _ _ _ (fun e => by subst e; rcases hp with hp | hp; exact hn hp; omega), h.block k hk hn]⟩
theorem KeptP.grown {S : Nat → Prop} {a w w' : World} {row : Option Nat} (h : KeptP S a w) (hg : w.grownBy w' row) (hr : ∀ k, row = some k → S k ∨ a.heap.size ≤ k) : KeptP S a w' :=
  ⟨hg.os.trans h.os, hg.tape.trans h.tape, hg.output.trans h.output, Nat.le_trans h.size hg.size, fun k hk hn => by
    rw [hg.block k (Nat.lt_of_lt_of_le hk h.size) (fun e => by rcases hr k e.symm with h1 | h1; exact hn h1; omega), h.block k hk hn]⟩
theorem KeptP.mono {S S' : Nat → Prop} {w w' : World} (h : KeptP S w w') (hs : ∀ k, S k → S' k) : KeptP S' w w' := ⟨h.os, h.tape, h.output, h.size, fun k hk hn => h.block k hk (fun h => hn (hs k h))⟩

/-- A connection in block lb; its blocks are among own. -/
def LineRep (w : World) (lb : Nat) (own : Nat → Prop) (x : Line) : Prop :=
  ∃ a1 c1 a2 c2, Block w lb [.slice a1 x.way.length c1, .slice a2 x.back.length c2, .bool x.cut] 60 ∧ IsBytes w 0 a1 c1 x.way ∧ IsBytes w 0 a2 c2 x.back ∧
    own lb ∧ (∀ y, a1 = some y → own y.block ∧ y.block ≠ lb) ∧ (∀ y, a2 = some y → own y.block ∧ y.block ≠ lb) ∧ (∀ y z, a1 = some y → a2 = some z → y.block ≠ z.block)
theorem LineRep.of_heap {w w' : World} {lb : Nat} {own own' : Nat → Prop} {x : Line} (h : LineRep w lb own x) (hh : ∀ k, own k → k < w.heap.size → w'.heap[k]? = w.heap[k]?) (ho : ∀ k, own k → own' k) : LineRep w' lb own' x := by
  obtain ⟨a1, c1, a2, c2, h1, h2, h3, h4, h5, h6, h7⟩ := h
  exact ⟨a1, c1, a2, c2, h1.of_heap (hh _ h4 h1.lt), h2.of_heap (fun y hy => hh _ (h5 y hy).1 (h2.lt y hy).2), h3.of_heap (fun y hy => hh _ (h6 y hy).1 (h3.lt y hy).2), ho _ h4, fun y hy => ⟨ho _ (h5 y hy).1, (h5 y hy).2⟩, fun y hy => ⟨ho _ (h6 y hy).1, (h6 y hy).2⟩, h7⟩
def LMoved (lb : Nat) (own : Nat → Prop) (x : Line) (w w' : World) : Prop :=
  ∃ own' : Nat → Prop, LineRep w' lb own' x ∧ (∀ k, own' k → (own k ∨ w.heap.size ≤ k) ∧ k < w'.heap.size) ∧ KeptP own w w'

theorem put_any (w : World) (lb : Nat) (own : Nat → Prop) (x : Line) (ad : Option Addr) (m c B : Nat) (l : List UInt8) (hr : LineRep w lb own x) (hlt : ∀ k, own k → k < w.heap.size) (hm : m = l.length) (hc : Cells B w ad (bys l)) (hnone : ad = none → c = 0)
    (hz : x.way.length + l.length ≤ 140737488351232) :
    Calls Try.prog 24 #[.pointer (some ⟨lb, 0, none⟩), .slice ad m c] w fun e w' => e = .returned (.tuple #[]) ∧ LMoved lb own { x with way := x.way ++ l } w w' := by
  obtain ⟨i0, hi0, hz0, hz1, hz2⟩ := info_parts Try.infoB
  subst hm
  obtain ⟨a1, c1, a2, c2, h1, h2, h3, h4, h5, h6, h7⟩ := hr
  have d0 := h1.cell (i := 0) rfl
  have f0 := h1.free 0
  have H1 := Lib.hid h1
  have H2 := Lib.hid h2
  have H3 := Lib.hid h3
  have HC := Lib.hid hc
  have HN := Lib.hid hnone
  have H5 := Lib.hid h5
  have H6 := Lib.hid h6
  have H7 := Lib.hid h7
  have HL := Lib.hid hlt
  have H4 := Lib.hid h4
  clear h1 h2 h3 hc hnone h5 h6 h7 hlt h4
  go_enter Try.func24, Try.ntmps24
  go_wp2_with (at_builtin; refine wpList_append_rows rfl _ _ 30 rfl 0 5 i0 _ 1 1 Try.underlying30 hi0 hz0 hz1 hz2 rfl (by decide) _ x.way.length (bys x.way) rfl H2.out ad l.length c B (bys l) rfl HN.out (by simp [bys_length]) HC.out (bys_one l) (by unfold maxLen; omega) (by omega) (by simp) ?_)
  intro a' cap' w' g1 g2 g3
  have hb' : Block w' lb [.slice a1 x.way.length c1, .slice a2 x.back.length c2, .bool x.cut] 60 := H1.out.of_heap (g2.block lb H1.out.lt (fun e => by
    cases a1 with
    | none => cases e
    | some y => simp [Value.ownBlock] at e; exact (H5.out y rfl).2 e.symm))
  have d0' := hb'.cell (i := 0) rfl
  have f0' := hb'.free 0
  have HB := Lib.hid hb'
  have G1 := Lib.hid g1
  have G2 := Lib.hid g2
  have G3 := Lib.hid g3
  clear hb' g1 g2 g3
  go_wp2_with fail
  go_end0
  refine ⟨rfl, fun k => k < w'.heap.size ∧ (own k ∨ w.heap.size ≤ k), ?_, fun k hk => ⟨hk.2, by simpa [World.setCell] using hk.1⟩, ?_⟩
  · have hne : (Value.slice a' (x.way.length + l.length) cap').ownBlock ≠ some lb := by
      have hl := H1.out.lt
      rcases G3.out with e | e
      · rw [e]; intro e2
        cases a1 with
        | none => cases e2
        | some y => simp [Value.ownBlock] at e2; exact (H5.out y rfl).2 e2
      · rw [e]; intro e2; injection e2 with e2; omega
    have gI : IsBytes w' 0 a' cap' (x.way ++ l) := by
      unfold IsBytes
      rw [List.length_append, bys_append]; exact G1.out
    have hy' : ∀ y, a' = some y → (own y.block ∨ w.heap.size ≤ y.block) ∧ y.block ≠ lb := fun y hy => by
      subst hy
      refine ⟨?_, fun e => hne (by simp [Value.ownBlock, e])⟩
      rcases G3.out with e | e
      · cases a1 with
        | none => cases e
        | some z => simp [Value.ownBlock] at e; rw [e]; exact .inl (H5.out z rfl).1
      · simp [Value.ownBlock] at e; rw [e]; exact .inr (Nat.le_refl _)
    have hwlt := H1.out.lt
    refine ⟨a', cap', a2, c2, ?_, ?_, ?_, ⟨HB.out.lt, .inl H4.out⟩, fun y hy => ⟨⟨(gI.lt y hy).2, (hy' y hy).1⟩, (hy' y hy).2⟩, fun y hy => ⟨⟨?_, .inl (H6.out y hy).1⟩, (H6.out y hy).2⟩, fun y z hy hz => ?_⟩
    · have := HB.out.set 0 (.slice a' (x.way.length + l.length) cap')
      simp only [List.length_append]
      exact this
    · exact gI.of_heap fun y hy => Below.heap_setCell _ _ _ _ (hy' y hy).2
    · refine (H3.out.of_heap fun y hy => ?_)
      have hlt2 := (H3.out.lt y hy).2
      rw [Below.heap_setCell _ _ _ _ (H6.out y hy).2]
      refine G2.out.block _ hlt2 (fun e => ?_)
      cases a1 with
      | none => cases e
      | some z => simp [Value.ownBlock] at e; exact H7.out z y rfl hy e.symm
    · have := (H3.out.lt y hy).2; have := G2.out.size; omega
    · have hlt2 := (H3.out.lt z hz).2
      subst hy
      rcases G3.out with e | e
      · cases a1 with
        | none => cases e
        | some u => simp [Value.ownBlock] at e; rw [e]; exact H7.out u z rfl hz
      · simp [Value.ownBlock] at e; omega
  · refine ((KeptP.refl own w).grown G2.out (fun k hk => ?_)).setCell (.inl H4.out) _
    cases a1 with
    | none => cases hk
    | some y => simp [Value.ownBlock] at hk; subst hk; exact .inl (H5.out y rfl).1
end Go.Proofs.Yteopfknoemifgaa

/- Parts Base, Open, Tree, MayP, Shelf, May, May2 of this seat (pruned, scripts that are alike kept once as default arguments: q1, q2, ..). Conditions: each says its own. -/
import Derived.Laws.AppendOwnNone
import Derived.Lib.Hide
import Derived.OpenShut
import Derived.ProofKit
import Derived.WalkLawsBesides
import Derived.WalkSpells
import Derived.Deep.Slices
import Derived.Test.YteljlahcdipilaaGreatBulk
import Derived.Shelf.Small.Strs
import Derived.Shelf.Strings.BuilderRune
import Derived.Shelf.Strings.OnBuilder
import Derived.Shelf.Strings.Prefix
import Derived.BigQuiet
set_option linter.unusedSimpArgs false
set_option linter.unusedVariables false
set_option maxRecDepth 1000000
set_option maxHeartbeats 64000000
namespace Go.Proofs.YteljlahcdipilaaGreat
open Go.RowKit
theorem aF {B : Nat} {a b c : World} (h : Below B a b) (hB : B = a.heap.size) (k : Below b.heap.size b c) : Below B a c := h.trans (k.mono (by rw [hB]; exact h.size))
theorem Calls.below {P : Program} {f : FuncId} {args : Array Value} {w W : World} {v : Value} (h : Calls P f args w fun e w' => e = .returned v /\ Below w.heap.size w w') (hb : Below W.heap.size W w) :
    Calls P f args w fun e w' => e = .returned v /\ Below W.heap.size W w' := h.mono fun _ _ ⟨he, hk⟩ => ⟨he, aF hb rfl hk⟩
theorem fu (b off i : Nat) : (⟨b, off, none⟩ : Addr).add i = ⟨b, off + i, none⟩ := by
 by_cases h : i = 0 <;> simp [Addr.add, h]
def da (B : Nat) (w : World) (a : Option Addr) (vs : List Value) : Prop :=
  vs = [] \/ ∃ b off, a = some ⟨b, off, none⟩ /\ b < B /\ ∀ (i : Nat) v, vs[i]? = some v -> w.cell? ⟨b, off + i, none⟩ = some v
theorem da.nil {B : Nat} {w : World} {a : Option Addr} : da B w a [] := .inl rfl
theorem da.below {B B' : Nat} {w w' : World} {a : Option Addr} {vs : List Value} (h : da B w a vs) (hb : Below B' w w') (hB : B <= B') : da B w' a vs := by
 rcases h with h | ⟨b, off, h1, h2, h3⟩
 ·exact .inl h
 ·exact .inr ⟨b, off, h1, h2, fun i v hi => by rw [hb.cell (by show b < B'; omega)]; exact h3 i v hi⟩
theorem da.mono {B B' : Nat} {w : World} {a : Option Addr} {vs : List Value} (h : da B w a vs) (hB : B <= B') : da B' w a vs := by
 rcases h with h | ⟨b, off, h1, h2, h3⟩
 ·exact .inl h
 ·exact .inr ⟨b, off, h1, by omega, h3⟩
def ae (w : World) (b : Nat) (cur : List Value) (t : TypeId) : Prop := w.heap[b]? = some (.cells cur.toArray t (0, 0))
theorem ae.lt {w : World} {b : Nat} {cur : List Value} {t : TypeId} (h : ae w b cur t) : b < w.heap.size := (Array.getElem?_eq_some_iff.1 h).1
theorem ae.cell {w : World} {b : Nat} {cur : List Value} {t : TypeId} (h : ae w b cur t) {i : Nat} {v : Value} (hi : cur[i]? = some v) : w.cell? ⟨b, i, none⟩ = some v := by
 unfold ae at h; simp [World.cell?, h, hi]
theorem ae.free {w : World} {b : Nat} {cur : List Value} {t : TypeId} (h : ae w b cur t) (i : Nat) : w.frozen? ⟨b, i, none⟩ = false := by
 unfold ae at h; simp [World.frozen?, h]
theorem ae.set {w : World} {b : Nat} {cur : List Value} {t : TypeId} (h : ae w b cur t) (i : Nat) (v : Value) : ae (w.setCell ⟨b, i, none⟩ v) b (cur.set i v) t := by
 have hlt := h.lt;unfold ae at *;have h' : w.heap[b] = .cells cur.toArray t (0, 0) := by simpa [Array.getElem?_eq_getElem hlt] using h
 show (w.heap.modify b _)[b]? = _;rw [Array.getElem?_eq_getElem (by simpa using hlt), Array.getElem_modify_self, h'];simp
theorem ae.of_heap {w w' : World} {b : Nat} {cur : List Value} {t : TypeId} (h : ae w b cur t) (hh : w'.heap[b]? = w.heap[b]?) : ae w' b cur t := hh.trans h
theorem ae.below {B : Nat} {w w' : World} {b : Nat} {cur : List Value} {t : TypeId} (h : ae w b cur t) (hb : Below B w w') (hB : b < B) : ae w' b cur t := h.of_heap (hb.block b hB)
theorem ae.set_other {w : World} {b : Nat} {cur : List Value} {t : TypeId} (h : ae w b cur t) {a : Addr} (ha : b ≠ a.block) (v : Value) : ae (w.setCell a v) b cur t := h.of_heap (Below.heap_setCell _ _ _ _ ha)
theorem ae.alloc {w : World} {b : Nat} {cur : List Value} {t : TypeId} (h : ae w b cur t) (o : Obj) : ae (w.alloc o) b cur t := h.of_heap (Below.heap_alloc _ _ _ h.lt)
theorem ae.new (w : World) (cur : List Value) (t : TypeId) : ae (w.alloc (.cells cur.toArray t)) w.heap.size cur t := by
 show (w.heap.push _)[w.heap.size]? = _;simp
theorem ae.drew {w : World} {b : Nat} {cur : List Value} {t : TypeId} (h : ae w b cur t) : ae w.drew b cur t := h
structure di (own : List Nat) (w w' : World) : Prop where
  os : w'.os = w.os
  tape : w'.tape = w.tape
  output : w'.output = w.output
  size : w.heap.size <= w'.heap.size
  block : ∀ k, k < w.heap.size -> k ∉ own -> w'.heap[k]? = w.heap[k]?
theorem di.refl (own : List Nat) (w : World) : di own w w := ⟨rfl, rfl, rfl, Nat.le_refl _, fun _ _ _ => rfl⟩
theorem di.trans {own own' : List Nat} {a b c : World} (h : di own a b) (k : di own' b c) (hs : ∀ x ∈ own', x ∈ own \/ a.heap.size <= x) : di own a c :=
  ⟨k.os.trans h.os, k.tape.trans h.tape, k.output.trans h.output, Nat.le_trans h.size k.size, fun x hx hn => by
    rw [k.block x (Nat.lt_of_lt_of_le hx h.size) (fun hm => by rcases hs x hm with h1 | h1; exact hn h1; omega), h.block x hx hn]⟩
theorem di.below {own : List Nat} {B : Nat} {w w' : World} (h : di own w w') (hB : ∀ x ∈ own, B <= x) (hs : B <= w.heap.size) : Below B w w' :=
  ⟨h.os, h.tape, h.output, h.size, fun k hk => h.block k (by omega) (fun hm => by have := hB k hm; omega)⟩
theorem di.of_below {own : List Nat} {w w' : World} (h : Below w.heap.size w w') : di own w w' := ⟨h.os, h.tape, h.output, h.size, fun k hk _ => h.block k hk⟩
theorem di.setCell {own : List Nat} {a w : World} (h : di own a w) {p : Addr} (hp : p.block ∈ own \/ a.heap.size <= p.block) (v : Value) : di own a (w.setCell p v) :=
  ⟨h.os, h.tape, h.output, by simpa [World.setCell] using h.size, fun k hk hn => by
    rw [Below.heap_setCell _ _ _ _ (fun e => by subst e; rcases hp with hp | hp; exact hn hp; omega), h.block k hk hn]⟩
theorem di.alloc {own : List Nat} {a w : World} (h : di own a w) (o : Obj) : di own a (w.alloc o) :=
  ⟨h.os, h.tape, h.output, by have := h.size; simp; omega, fun k hk hn => by rw [Below.heap_alloc _ _ _ (Nat.lt_of_lt_of_le hk h.size), h.block k hk hn]⟩
theorem di.drew {own : List Nat} {a w : World} (h : di own a w) : di own a w.drew := ⟨h.os, h.tape, h.output, h.size, h.block⟩
theorem di.drewN {own : List Nat} {a w : World} (h : di own a w) (n : Nat) : di own a (w.drewN n) := ⟨h.os, h.tape, h.output, h.size, h.block⟩
theorem di.grown {own : List Nat} {a w w' : World} {row : Option Nat} (h : di own a w) (hg : w.grownBy w' row) (hr : ∀ k, row = some k -> k ∈ own \/ a.heap.size <= k) : di own a w' :=
  ⟨hg.os.trans h.os, hg.tape.trans h.tape, hg.output.trans h.output, Nat.le_trans h.size hg.size, fun k hk hn => by
    rw [hg.block k (Nat.lt_of_lt_of_le hk h.size) (fun e => by rcases hr k e.symm with h1 | h1; exact hn h1; omega), h.block k hk hn]⟩
theorem dd {α : Type} {l : List α} {k : Nat} {x : α} (h : l[k]? = some x) : l.take (k + 1) = l.take k ++ [x] := by
 rw [List.take_add_one, h]; rfl
def zR (k : IntKind) (w : World) (a : Option Addr) (len cap : Nat) (zs : List Int) : Prop :=
  (a = none /\ len = 0 /\ cap = 0 /\ zs = []) \/
  ∃ x, a = some x /\ len <= cap /\ cap <= maxLen /\ zs.length = cap /\ (∀ i, i < zs.length -> w.cell? (x.add i) = some (.int k (zs.getD i 0))) /\ ∀ n ∈ zs, (Lit.int k n).wf = true
theorem zR.cells {k : IntKind} {w : World} {a : Option Addr} {len cap : Nat} {zs : List Int} (h : zR k w a len cap zs) :
    ∃ ys : List Int, ys = zs.take len /\ ys.length = len /\ len <= maxLen /\ da w.heap.size w a (ys.map (.int k)) := by
 rcases h with ⟨rfl, rfl, rfl, rfl⟩ | ⟨x, rfl, hl, hm, hz, hc, _⟩
 ·exact ⟨[], rfl, rfl, Nat.zero_le _, .inl rfl⟩
 ·refine ⟨_, rfl, by simp; omega, by omega, ?_⟩
  by_cases h0 : len = 0
  ·subst h0; exact .inl (by simp)
  ·obtain ⟨b, off, spot⟩ := x;have h1 := hc 0 (by omega);have hspot : spot = none := by simpa [Addr.add] using World.cell?_spot h1
   subst hspot;refine .inr ⟨b, off, rfl, by simpa [Addr.add] using World.block_lt_of_cell? w _ h1, fun i v hi => ?_⟩;rw [List.getElem?_map] at hi;obtain ⟨n, hn, rfl⟩ := Option.map_eq_some_iff.1 hi;have hi2 : i < zs.length := by
    have := (List.getElem?_eq_some_iff.1 hn).1; simp at this; omega
   have hn' : zs[i]? = some n := by rw [List.getElem?_take] at hn; split at hn <;> simp_all
   have h2 := hc i hi2;rw [List.getD_eq_getElem?_getD, hn', fu] at h2;exact h2
universe u
theorem ng (a b : Int) (h : ¬ a = b := by decide) : ¬ a = b := h
theorem nf (a b : Int) (h : (a = b) = False := by decide) : (a = b) = False := h
theorem nam {α : Sort u} (x : α) : ∃ y, x = y := ⟨x, rfl⟩
theorem hd3 {A0 A1 A2 : Prop} (a0 : A0) (a1 : A1) (a2 : A2) : Hid A0 /\ Hid A1 /\ Hid A2 := ⟨Lib.hid a0, Lib.hid a1, Lib.hid a2⟩
theorem hd4 {A0 A1 A2 A3 : Prop} (a0 : A0) (a1 : A1) (a2 : A2) (a3 : A3) : Hid A0 /\ Hid A1 /\ Hid A2 /\ Hid A3 := ⟨Lib.hid a0, Lib.hid a1, Lib.hid a2, Lib.hid a3⟩
theorem hd5 {A0 A1 A2 A3 A4 : Prop} (a0 : A0) (a1 : A1) (a2 : A2) (a3 : A3) (a4 : A4) : Hid A0 /\ Hid A1 /\ Hid A2 /\ Hid A3 /\ Hid A4 := ⟨Lib.hid a0, Lib.hid a1, Lib.hid a2, Lib.hid a3, Lib.hid a4⟩
theorem hd7 {A0 A1 A2 A3 A4 A5 A6 : Prop} (a0 : A0) (a1 : A1) (a2 : A2) (a3 : A3) (a4 : A4) (a5 : A5) (a6 : A6) : Hid A0 /\ Hid A1 /\ Hid A2 /\ Hid A3 /\ Hid A4 /\ Hid A5 /\ Hid A6 := ⟨Lib.hid a0, Lib.hid a1, Lib.hid a2, Lib.hid a3, Lib.hid a4, Lib.hid a5, Lib.hid a6⟩
theorem aa {p : Prop} (h : p) : Hid p := Lib.hid h
abbrev ab : List Value := [.int .i64 0, .slice none 0 0, .slice none 0 0, .int .i64 0, .string ⟨#[]⟩, .int .i64 0, .bool false, .int .i64 0, .string ⟨#[]⟩, .slice none 0 0, .slice none 0 0, .slice none 0 0, .slice none 0 0, .string ⟨#[]⟩, .slice none 0 0, .bool false, .slice none 0 0, .slice none 0 0, .slice none 0 0, .slice none 0 0, .slice none 0 0, .bool false]
abbrev ac : Array Value := #[.int .i64 0, .slice none 0 0, .slice none 0 0, .int .i64 0, .string ⟨#[]⟩, .int .i64 0, .bool false, .int .i64 0, .string ⟨#[]⟩, .slice none 0 0, .slice none 0 0, .slice none 0 0, .slice none 0 0, .string ⟨#[]⟩, .slice none 0 0, .bool false, .slice none 0 0, .slice none 0 0, .slice none 0 0, .slice none 0 0, .slice none 0 0, .bool false]
abbrev ad : Array Value := #[.int .i64 0, .string ⟨#[]⟩, .int .i64 0, .bool false, .int .i64 0, .string ⟨#[]⟩, .slice none 0 0, .slice none 0 0, .slice none 0 0, .slice none 0 0]
end Go.Proofs.YteljlahcdipilaaGreat
namespace Go.Proofs.YteljlahcdipilaaGreat
open Go.RowKit Go.Deep Go.ChangeShapes Go.WideShapes
theorem sN {w : World} {a : Addr} {v : Value} (h : w.cell? a = some v) : a = ⟨a.block, a.off, none⟩ := by
 have := World.cell?_spot h;cases a; simp_all
theorem uF {α : Type} {f : α -> List Value} {size : Nat} {os : List α} (hf : ∀ o ∈ os, (f o).length = size) {i : Nat} {v : Value} (h : (os.flatMap f)[i]? = some v) :
    ∃ k j o, i = k * size + j /\ j < size /\ os[k]? = some o /\ (f o)[j]? = some v := by
 induction os generalizing i with
 | nil => simp at h
 | cons o os ih =>
  have h0 := hf o (by simp);rw [List.flatMap_cons] at h
  by_cases hi : i < size
  ·rw [List.getElem?_append_left (by omega)] at h;exact ⟨0, i, o, by omega, hi, rfl, h⟩
  ·rw [List.getElem?_append_right (by omega), h0] at h;obtain ⟨k, j, u, h1, h2, h3, h4⟩ := ih (fun u hu => hf u (by simp [hu])) h;refine ⟨k + 1, j, u, ?_, h2, by simpa using h3, h4⟩;rw [Nat.succ_mul]; omega
theorem oh {α : Type} {p : Nat -> α -> Prop} {n : Nat} (h : ∀ i, i < n -> ∃ o, p i o) : ∃ os : List α, os.length = n /\ ∀ (i : Nat) o, os[i]? = some o -> p i o := by
 induction n with
 | zero => exact ⟨[], rfl, by simp⟩
 | succ n ih =>
  obtain ⟨os, h1, h2⟩ := ih (fun i hi => h i (by omega));obtain ⟨o, ho⟩ := h n (by omega);refine ⟨os ++ [o], by simp [h1], fun i u hu => ?_⟩
  by_cases hin : i < os.length
  ·rw [List.getElem?_append_left hin] at hu; exact h2 i u hu
  ·rw [List.getElem?_append_right (by omega)] at hu;have : i = n := by
    have := (List.getElem?_eq_some_iff.1 hu).1;simp at this; omega
   subst this;rw [show i - os.length = 0 from by omega] at hu;simp at hu; subst hu; exact ho
theorem sO {H : Type} {enc : TypeId × Value -> H} {P : Program} {w : World} {base : Nat} {spare : Nat -> Bool} {held : Bool} {α : Type} (f : α -> List Value) (size : Nat) {t e : TypeId} {fuel : Nat} {a : Option Addr} {len cap : Nat} {x : DataW H × List MemPlace}
    (ht : P.underlying t = some (.slice e)) (hC : P.cellsOf e = size)
    (hel : ∀ (n : Nat) (cs : List Value) (y : DataW H × List MemPlace), cs.length = size -> DataW.trod enc P w base spare held n e cs = some y -> ∃ o : α, cs = f o)
    (h : DataW.trod enc P w base spare held fuel t [.slice a len cap] = some x) :
    ∃ os : List α, os.length = len /\ len <= cap /\ cap <= maxLen /\ (a = none -> cap = 0) /\ (∀ o ∈ os, (f o).length = size) /\ da w.heap.size w a (os.flatMap f) := by
 rcases open_slice ht h with ⟨h0, _⟩ | ⟨b, l, c, m, n, D, Pl, hcs, hb, hl, hm, hmm, hx, hi⟩
 ·injection h0 with h0; injection h0 with h1 h2 h3; subst h1 h2 h3
  exact ⟨[], rfl, Nat.le_refl _, Nat.zero_le _, fun _ => rfl, by simp, .inl rfl⟩
 ·injection hcs with h0; injection h0 with h1 h2 h3; subst h1 h2 h3
  have hlm : len <= m := by subst hmm; split <;> omega
  have hex : ∀ i, i < len -> ∃ o : α, (f o).length = size /\ ∀ j v, (f o)[j]? = some v -> w.cell? (b.add (i * size + j)) = some v := by
   intro i hil;obtain ⟨cs', hc, ht'⟩ := hi i (by omega);rw [hC] at hc;obtain ⟨_, hcl, hat⟩ := World.cells?_some hc;obtain ⟨o, rfl⟩ := hel n cs' _ hcl ht';refine ⟨o, hcl, fun j v hj => ?_⟩;have hjl : j < size := by rw [<- hcl]; exact (List.getElem?_eq_some_iff.1 hj).1
   rw [<- Go.Deep.add_add, hat j hjl, hj]
  obtain ⟨os, h1, h2⟩ := oh hex;refine ⟨os, h1, hl, hm, (fun h => by cases h), fun o ho => ?_, ?_⟩
  ·obtain ⟨i, hi⟩ := List.getElem?_of_mem ho;exact (h2 i o hi).1
  ·have hlen : ∀ o ∈ os, (f o).length = size := fun o ho => by obtain ⟨i, hi⟩ := List.getElem?_of_mem ho; exact (h2 i o hi).1
   by_cases hne : os.flatMap f = []
   ·exact .inl hne
   ·obtain ⟨v0, hv0⟩ : ∃ v, (os.flatMap f)[0]? = some v := by
     cases hq : os.flatMap f with
     | nil => exact absurd hq hne
     | cons v t => exact ⟨v, rfl⟩
    have hall : ∀ (i : Nat) v, (os.flatMap f)[i]? = some v -> w.cell? (b.add i) = some v := fun i v hv => by
     obtain ⟨k, j, o, rfl, _, ho, hj⟩ := uF hlen hv;exact (h2 k o ho).2 j v hj
    have hc0 := hall 0 v0 hv0;have hsp : b = ⟨b.block, b.off, none⟩ := by
     have h0 : b.add 0 = b := by cases b; simp [Addr.add]
     rw [h0] at hc0; exact sN hc0
    refine .inr ⟨b.block, b.off, by rw [<- hsp], ?_, fun i v hv => ?_⟩
    ·have h0 : b.add 0 = b := by cases b; simp [Addr.add]
     rw [h0] at hc0; exact World.block_lt_of_cell? w _ hc0
    ·have := hall i v hv;rw [hsp, fu] at this; exact this
inductive Vt where
  | mk (kind : Int) (bool : Bool) (int : Int) (str : ByteArray) (list : List Vt) (keys : List ByteArray)
def bJ (n : Int) : Prop := -9223372036854775808 <= n /\ n <= 9223372036854775807
def co (B : Nat) (w : World) (a : Option Addr) (ks : List ByteArray) : Prop := da B w a (ks.map Value.string)
mutual
def dR (B : Nat) (w : World) : List Value -> Vt -> Prop
  | cs, .mk k b i s l ks => ∃ la lc ka kc, cs = [.int .i64 k, .bool b, .int .i64 i, .string s, .slice la l.length lc, .slice ka ks.length kc] /\ bJ k /\ bJ i /\ (l.length <= lc /\ lc <= 9223372036854775807) /\ (ks.length <= kc /\ kc <= 9223372036854775807) /\
      (la = none -> lc = 0) /\ (ka = none -> kc = 0) /\ co B w ka ks /\ eN B w la 0 l
def eN (B : Nat) (w : World) : Option Addr -> Nat -> List Vt -> Prop
  | _, _, [] => True
  | a, n, t :: ts => (∃ b off cs, a = some ⟨b, off, none⟩ /\ b < B /\ (∀ j v, cs[j]? = some v -> w.cell? ⟨b, off + (n * 6 + j), none⟩ = some v) /\ dR B w cs t) /\ eN B w a (n + 1) ts
end
mutual
def uD : Vt -> Nat
  | .mk _ _ _ s l ks => 1 + s.size + (ks.map fun k => k.size + 1).sum + sP l
def sP : List Vt -> Nat
  | [] => 0
  | t :: ts => uD t + sP ts
end
theorem uG {l : List Vt} {i : Nat} {t : Vt} (h : l[i]? = some t) : uD t <= sP l := by
 induction l generalizing i with
 | nil => simp at h
 | cons u us ih =>
  cases i with
  | zero => simp at h; subst h; simp only [sP]; omega
  | succ i => have := ih (i := i) (by simpa using h); simp only [sP]; omega
theorem Vt.down {p : Vt -> Prop} (h : ∀ k b i s l ks, (∀ (j : Nat) t, l[j]? = some t -> p t) -> p (.mk k b i s l ks)) (t : Vt) : p t := by
 induction hn : uD t using Nat.strongRecOn generalizing t with
 | _ n ih =>
  obtain ⟨k, b, i, s, l, ks⟩ := t;refine h k b i s l ks fun j t ht => ih (uD t) ?_ t rfl
  have := uG ht;rw [<- hn];simp only [uD];omega
theorem eN.get {B : Nat} {w : World} {a : Option Addr} {l : List Vt} : ∀ {n : Nat}, eN B w a n l -> ∀ (i : Nat) (t : Vt), l[i]? = some t ->
    ∃ b off cs, a = some ⟨b, off, none⟩ /\ b < B /\ (∀ j v, cs[j]? = some v -> w.cell? ⟨b, off + ((n + i) * 6 + j), none⟩ = some v) /\ dR B w cs t := by
 induction l with
 | nil => intro n _ i t h; simp at h
 | cons u us ih =>
  intro n h i t ht;unfold eN at h;cases i with
  | zero => simp at ht; subst ht; exact h.1
  | succ i =>
   have := ih h.2 i t (by simpa using ht);rwa [show n + 1 + i = n + (i + 1) from by omega] at this
theorem eN.mk {B : Nat} {w : World} {a : Option Addr} {l : List Vt} : ∀ {n : Nat}, (∀ (i : Nat) (t : Vt), l[i]? = some t ->
    ∃ b off cs, a = some ⟨b, off, none⟩ /\ b < B /\ (∀ j v, cs[j]? = some v -> w.cell? ⟨b, off + ((n + i) * 6 + j), none⟩ = some v) /\ dR B w cs t) -> eN B w a n l := by
 induction l with
 | nil => intro n _; simp [eN]
 | cons u us ih =>
  intro n h;unfold eN;exact ⟨h 0 u rfl, ih fun i t ht => by
   have := h (i + 1) t (by simpa using ht);rwa [show n + (i + 1) = n + 1 + i from by omega] at this⟩
theorem dR.below {B B' : Nat} {w w' : World} (hb : Below B' w w') (hB : B <= B') (t : Vt) : ∀ cs, dR B w cs t -> dR B w' cs t := by
 refine t.down (p := fun t => ∀ cs, dR B w cs t -> dR B w' cs t) fun k b i s l ks ih cs h => ?_
 unfold dR at h ⊢;obtain ⟨la, lc, ka, kc, h1, h2, h3, h4, h5, h6, h7, h8, h9⟩ := h;refine ⟨la, lc, ka, kc, h1, h2, h3, h4, h5, h6, h7, h8.below hb hB, eN.mk fun j t ht => ?_⟩;obtain ⟨b, off, cs', g1, g2, g3, g4⟩ := h9.get j t ht;exact ⟨b, off, cs', g1, g2, fun q v hv => by rw [hb.cell (by show b < B'; omega)]; exact g3 q v hv, ih j t ht cs' g4⟩
theorem dR.mono {B B' : Nat} {w : World} (hB : B <= B') (t : Vt) : ∀ cs, dR B w cs t -> dR B' w cs t := by
 refine t.down (p := fun t => ∀ cs, dR B w cs t -> dR B' w cs t) fun k b i s l ks ih cs h => ?_
 unfold dR at h ⊢;obtain ⟨la, lc, ka, kc, h1, h2, h3, h4, h5, h6, h7, h8, h9⟩ := h;refine ⟨la, lc, ka, kc, h1, h2, h3, h4, h5, h6, h7, h8.mono hB, eN.mk fun j t ht => ?_⟩;obtain ⟨b, off, cs', g1, g2, g3, g4⟩ := h9.get j t ht;exact ⟨b, off, cs', g1, by omega, g3, ih j t ht cs' g4⟩
theorem kf {α : Type} (f : α -> Nat) {l : List α} {i : Nat} {x : α} (h : l[i]? = some x) : f x <= (l.map f).sum := by
 induction l generalizing i with
 | nil => simp at h
 | cons u us ih =>
  cases i with
  | zero => simp at h; subst h; simp only [List.map_cons, List.sum_cons]; omega
  | succ i => have := ih (i := i) (by simpa using h); simp only [List.map_cons, List.sum_cons]; omega
end Go.Proofs.YteljlahcdipilaaGreat
namespace Go.Proofs.YteljlahcdipilaaGreat
open Go.RowKit
def lM (x y : ByteArray) : Bool := Op.bytesLess x.toList y.toList || x.toList == y.toList
def uE (ks : List ByteArray) (i : Nat) : Bool := match ks[i]? with
  | none => true
  | some x => decide (1 <= x.size /\ x.size <= 64) && (match ks[i - 1]? with | none => true | some y => decide (i = 0) || !lM x y)
def gC (ks : List ByteArray) : Bool := decide (∀ i, i < ks.length -> uE ks i = true)
def aS (k : Int) (b : Bool) (i : Int) (s : ByteArray) (n m : Nat) : Bool :=
  decide ((k = 1 \/ b = false) /\ (k = 2 \/ k = 6 \/ k = 7 \/ i = 0) /\ (k = 3 \/ s.size = 0) /\ (k = 4 \/ k = 5 \/ n = 0) /\ (k = 5 \/ m = 0))
def fe (k : Int) (b : Bool) (i : Int) (s : ByteArray) (n : Nat) (ks : List ByteArray) (deep : Int) (parts : Nat) : Bool :=
  decide (parts + 1 <= 4096 /\ 1 <= deep /\ 0 <= k /\ k <= 7 /\ aS k b i s n ks.length = true /\ ¬ ((k = 6 \/ k = 7) /\ i < 1) /\ (k = 5 -> ks.length = n /\ gC ks = true))
mutual
def eF : Vt -> Int -> Nat -> Nat × Bool
  | .mk k b i s l ks, deep, parts => if fe k b i s l.length ks deep parts then fv l (deep - 1) (parts + 1) else (parts + 1, false)
def fv : List Vt -> Int -> Nat -> Nat × Bool
  | [], _, parts => (parts, true)
  | t :: ts, deep, parts => match eF t deep parts with | (n, false) => (n, false) | (n, true) => fv ts deep n
end
def uH (t : Vt) : Bool := (eF t 32 0).2
theorem uI (d : Int) (l : List Vt) (h : ∀ (j : Nat) t, l[j]? = some t -> ∀ d p, p <= 4096 -> (eF t d p).1 <= 4097 /\ ((eF t d p).2 = true -> (eF t d p).1 <= 4096)) :
    ∀ p, p <= 4096 -> (fv l d p).1 <= 4097 /\ ((fv l d p).2 = true -> (fv l d p).1 <= 4096) := by
 induction l with
 | nil => intro p hp; simp only [fv]; exact ⟨by omega, fun _ => hp⟩
 | cons t ts ih =>
  intro p hp;have h0 := h 0 t rfl d p hp;simp only [fv];cases hm : eF t d p with
  | mk n ok =>
   rw [hm] at h0;cases ok with
   | false => exact ⟨h0.1, fun h => by cases h⟩
   | true => exact ih (fun j t ht => h (j + 1) t (by simpa using ht)) n (h0.2 rfl)
theorem mK (t : Vt) : ∀ d p, p <= 4096 -> (eF t d p).1 <= 4097 /\ ((eF t d p).2 = true -> (eF t d p).1 <= 4096) := by
 refine t.down (p := fun t => ∀ d p, p <= 4096 -> (eF t d p).1 <= 4097 /\ ((eF t d p).2 = true -> (eF t d p).1 <= 4096)) fun k b i s l ks ih d p hp => ?_
 unfold eF;cases hh : fe k b i s l.length ks d p with
 | false => simp; omega
 | true =>
  have : p + 1 <= 4096 := by have := of_decide_eq_true hh; exact this.1
  exact uI (d - 1) l ih (p + 1) this
theorem iI {l : List Vt} {i : Nat} {t : Vt} (h : l[i]? = some t) (d : Int) (p : Nat) : fv (l.drop i) d p = match eF t d p with | (n, false) => (n, false) | (n, true) => fv (l.drop (i + 1)) d n := by
 obtain ⟨h1, h2⟩ := List.getElem?_eq_some_iff.1 h;rw [List.drop_eq_getElem_cons h1, h2, fv]
theorem qj {t : Vt} {d : Int} {p : Nat} (h : (eF t d p).2 = true) : ∃ k b i s l ks, t = .mk k b i s l ks /\ fe k b i s l.length ks d p = true /\ ∀ (j : Nat) u, l[j]? = some u -> ∃ q, (eF u (d - 1) q).2 = true := by
 obtain ⟨k, b, i, s, l, ks⟩ := t;refine ⟨k, b, i, s, l, ks, rfl, ?_⟩;unfold eF at h;cases hh : fe k b i s l.length ks d p with
 | false => rw [hh] at h; cases h
 | true =>
  rw [hh, if_pos rfl] at h;refine ⟨rfl, ?_⟩;clear hh;generalize p + 1 = q at h
  induction l generalizing q with
  | nil => intro j u hu; simp at hu
  | cons t ts ih =>
   intro j u hu;simp only [fv] at h;cases hm : eF t (d - 1) q with
   | mk n ok =>
    rw [hm] at h;cases ok with
    | false => cases h
    | true =>
     cases j with
     | zero => simp at hu; subst hu; exact ⟨q, by rw [hm]⟩
     | succ j => exact ih n h j u (by simpa using hu)
end Go.Proofs.YteljlahcdipilaaGreat
namespace Go.Proofs.YteljlahcdipilaaGreat
open Go.Shelf Go.Proofs Go.RowKit
def zS : Go.Shelf.Ren := ⟨fun | 99 => 75 | 137 => 106 | 143 => 76 | 144 => 43 | 156 => 179 | 165 => 182 | 166 => 36 | 167 => 34 | 168 => 164 | 169 => 38 | 206 => 93 | 217 => 107 | 219 => 94 | 224 => 109 | 225 => 108 | 240 => 55 | 241 => 185 | 242 => 170 | 266 => 126 | 267 => 110 | 276 => 90 | 277 => 186 | 278 => 176 | 314 => 127 | n => n, fun | 0 => 0 | 3 => 3 | 4 => 4 | 5 => 5 | 9 => 9 | 20 => 20 | 21 => 21 | 31 => 62 | 37 => 75 | 46 => 160 | 51 => 180 | 70 => 92 | 72 => 94 | 75 => 96 | 76 => 106 | 80 => 109 | 127 => 148 | 146 => 181 | 164 => 156 | n => n, fun | n => n⟩
theorem uO : Go.Proofs.Lays.n99 Tryz.prog zS := {
  mixed := by kernel_rfl
  f99 := Tryz.func75.trans (congrArg some (by kernel_rfl))
  f206 := Tryz.func93.trans (congrArg some (by kernel_rfl))
  t3 := Tryz.underlying3
  a3 := Tryz.isAgg3
  z3 := Tryz.sizeOf3
  v3 := Tryz.zeroValue3
  t4 := Tryz.underlying4
  a4 := Tryz.isAgg4
  z4 := Tryz.sizeOf4
  v4 := Tryz.zeroValue4
  t9 := Tryz.underlying9
  a9 := Tryz.isAgg9
  z9 := Tryz.sizeOf9
  v9 := Tryz.zeroValue9
}
theorem sW : Go.Proofs.Lays.n137 Tryz.prog zS := {
  mixed := by kernel_rfl
  f137 := Tryz.func106.trans (congrArg some (by kernel_rfl))
  f217 := Tryz.func107.trans (congrArg some (by kernel_rfl))
  f266 := Tryz.func126.trans (congrArg some (by kernel_rfl))
  t3 := Tryz.underlying3
  a3 := Tryz.isAgg3
  z3 := Tryz.sizeOf3
  v3 := Tryz.zeroValue3
  t5 := Tryz.underlying5
  a5 := Tryz.isAgg5
  z5 := Tryz.sizeOf5
  v5 := Tryz.zeroValue5
  t9 := Tryz.underlying9
  a9 := Tryz.isAgg9
  z9 := Tryz.sizeOf9
  v9 := Tryz.zeroValue9
}
end Go.Proofs.YteljlahcdipilaaGreat
namespace Go.Proofs.YteljlahcdipilaaGreat
open Go.RowKit
theorem aH {B : Nat} {a w : World} (h : Below B a w) (n : Nat) : Below B a (w.drewN n) := by
 induction n with
 | zero => exact h
 | succ n ih => exact ih.drew
theorem gZ (s : ByteArray) : s.toList = s.data.toList := by
 have h0 : ∀ l : List UInt8, (ByteArray.mk l.toArray).toList = l := fun l => by simp
 have h := h0 s.data.toList;rwa [show (⟨s.data.toList.toArray⟩ : ByteArray) = s from by apply ByteArray.ext; simp] at h
theorem et {s : ByteArray} (h : s.size = 0) : s.toList = [] /\ s.toList.isEmpty = true := by
 have h1 : s.toList = [] := by rw [gZ]; exact List.length_eq_zero_iff.1 (by simpa using h)
 exact ⟨h1, by rw [h1]; rfl⟩
theorem eZ {s : ByteArray} (h : ¬ s.size = 0) : ¬ s.toList = [] /\ s.toList.isEmpty = false := by
 have h1 : ¬ s.toList = [] := fun hh => h (by rw [gZ] at hh; have := congrArg List.length hh; simpa using this)
 exact ⟨h1, by rw [List.isEmpty_eq_false_iff]; exact h1⟩
theorem aB {α : Type} {l : List α} {j : Nat} (h : j < l.length) : ∃ x, l[j]? = some x := ⟨l[j], List.getElem?_eq_getElem h⟩
theorem rQ {ks : List ByteArray} {i : Nat} {x : ByteArray} (h : ks[i]? = some x) (h1 : 1 <= x.size) (h2 : x.size <= 64) (h3 : i = 0 \/ ∃ y, ks[i - 1]? = some y /\ lM x y = false) : uE ks i = true := by
 unfold uE;rw [h];dsimp only;rw [decide_eq_true ⟨h1, h2⟩, Bool.true_and];rcases h3 with rfl | ⟨y, hy, hl⟩
 ·cases ks[0 - 1]? <;> simp
 ·rw [hy];dsimp only;rw [hl]; simp
theorem rR {ks : List ByteArray} {i : Nat} {x : ByteArray} (h : ks[i]? = some x) (h1 : ¬ (1 <= x.size /\ x.size <= 64)) : uE ks i = false := by
 unfold uE;rw [h];dsimp only;rw [decide_eq_false h1, Bool.false_and]
theorem rS {ks : List ByteArray} {i : Nat} {x y : ByteArray} (h : ks[i]? = some x) (hi : 0 < i) (hy : ks[i - 1]? = some y) (hl : lM x y = true) : uE ks i = false := by
 unfold uE;rw [h];dsimp only;rw [hy];dsimp only;rw [hl, decide_eq_false (show ¬ i = 0 from by omega)];simp
theorem hO {ks : List ByteArray} {i : Nat} (hi : i < ks.length) (h : uE ks i = false) : gC ks = false := decide_eq_false (fun hh => by rw [hh i hi] at h; cases h)
theorem qC {ks : List ByteArray} (h : ∀ i, i < ks.length -> uE ks i = true) : gC ks = true := decide_eq_true h
theorem gd {k : Int} {b : Bool} {i : Int} {s : ByteArray} {n : Nat} {ks : List ByteArray} {deep : Int} {parts : Nat} (h1 : parts + 1 <= 4096) (h2 : 1 <= deep) (h3 : 0 <= k) (h4 : k <= 7) (h5 : aS k b i s n ks.length = true) (h6 : ¬ ((k = 6 \/ k = 7) /\ i < 1)) (h7 : k = 5 -> ks.length = n /\ gC ks = true) : fe k b i s n ks deep parts = true :=
  decide_eq_true ⟨h1, h2, h3, h4, h5, h6, h7⟩
theorem eu {k : Int} {b : Bool} {i : Int} {s : ByteArray} {n : Nat} {ks : List ByteArray} {deep : Int} {parts : Nat} (h : ¬ (parts + 1 <= 4096 /\ 1 <= deep /\ 0 <= k /\ k <= 7 /\ aS k b i s n ks.length = true /\ ¬ ((k = 6 \/ k = 7) /\ i < 1) /\ (k = 5 -> ks.length = n /\ gC ks = true))) : fe k b i s n ks deep parts = false := decide_eq_false h
def iy (p : Nat × Bool) : Value := .tuple #[.int .i64 p.1, .bool p.2]
theorem yg {k : Int} {b : Bool} {i : Int} {s : ByteArray} {l : List Vt} {ks : List ByteArray} {d : Int} {p : Nat} (h : fe k b i s l.length ks d p = false) : iy (eF (.mk k b i s l ks) d p) = .tuple #[.int .i64 ((p : Int) + 1), .bool false] := by
 unfold eF; rw [h]; rfl
theorem mW {k : Int} {b : Bool} {i : Int} {s : ByteArray} {l : List Vt} {ks : List ByteArray} {d : Int} {p : Nat} (h : fe k b i s l.length ks d p = true) : eF (.mk k b i s l ks) d p = fv l (d - 1) (p + 1) := by
 unfold eF; rw [h]; rfl
end Go.Proofs.YteljlahcdipilaaGreat

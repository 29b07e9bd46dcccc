/- Parts X30 of this seat (pruned, scripts that are alike kept once as default arguments: q1, q2, ..). Conditions: each says its own. -/
import Derived.Test.YteljlahcdipilaaGreatF19
namespace Go.Proofs.YteljlahcdipilaaGreat
open Go.RowKit Go.Shelf
set_option linter.unusedSimpArgs false
set_option linter.unusedVariables false
set_option maxRecDepth 100000
theorem PartRow.below {B B' : Nat} {w w' : World} {a : Option Addr} {ps : List Part} (h : PartRow B w a ps) (hb : Below B' w w') (hB : B ≤ B') : PartRow B w' a ps := by
 obtain ⟨vs, h1, h2, h3⟩ := h
 exact ⟨vs, h1.below hb hB, h2, fun i p hp => by obtain ⟨v, h4, h5⟩ := h3 i p hp; exact ⟨v, h4, h5.below hb hB⟩⟩
theorem PartRow.mono {B B' : Nat} {w : World} {a : Option Addr} {ps : List Part} (h : PartRow B w a ps) (hB : B ≤ B') : PartRow B' w a ps := by
 obtain ⟨vs, h1, h2, h3⟩ := h
 exact ⟨vs, h1.mono hB, h2, fun i p hp => by obtain ⟨v, h4, h5⟩ := h3 i p hp; exact ⟨v, h4, h5.mono hB⟩⟩
def PartIn (B lo hi : Nat) (w : World) (a : Option Addr) (ps : List Part) : Prop := ∃ vs, (vs = [] ∨ ∃ g, a = some ⟨g, 0, none⟩ ∧ lo ≤ g ∧ g < hi ∧ (∃ cur, w.heap[g]? = some (.cells cur 105 (0, 0))) ∧ ∀ (k : Nat) v, vs[k]? = some v → w.cell? ⟨g, k, none⟩ = some v) ∧ vs.length = ps.length ∧ ∀ (i : Nat) p, ps[i]? = some p → ∃ v, vs[i]? = some v ∧ IsPart B w v p
theorem PartOwn.inside {B lo : Nat} {w : World} {a : Option Addr} {ps : List Part} (h : PartOwn B lo w a ps) : PartIn B lo w.heap.size w a ps := h
theorem PartIn.keep {B lo hi : Nat} {w w' : World} {a : Option Addr} {ps : List Part} (h : PartIn B lo hi w a ps) (hb : Below B w w') (hk : ∀ g, lo ≤ g → g < hi → w'.heap[g]? = w.heap[g]?) : PartIn B lo hi w' a ps := by
 obtain ⟨vs, h1, h2, h3⟩ := h
 refine ⟨vs, h1.imp id ?_, h2, fun i p hp => by obtain ⟨v, h4, h5⟩ := h3 i p hp; exact ⟨v, h4, h5.below hb (Nat.le_refl _)⟩⟩
 rintro ⟨g, h4, h5, h6, ⟨cur, h8⟩, h7⟩
 refine ⟨g, h4, h5, h6, ⟨cur, (hk g h5 h6).trans h8⟩, fun k v hv => ?_⟩
 rw [← h7 k v hv]
 simp only [World.cell?, hk g h5 h6]
theorem PartIn.below {B lo hi D : Nat} {w w' : World} {a : Option Addr} {ps : List Part} (h : PartIn B lo hi w a ps) (hb : Below D w w') (hB : B ≤ D) (hh : hi ≤ D) : PartIn B lo hi w' a ps :=
  h.keep (hb.mono hB) (fun g _ hg => hb.block g (by omega))
theorem PartIn.store {B lo hi b : Nat} {w : World} {a : Option Addr} {ps : List Part} (h : PartIn B lo hi w a ps) (hB : B ≤ b) (hb : b < lo ∨ hi ≤ b) (j : Nat) (v : Value) : PartIn B lo hi (w.setCell ⟨b, j, none⟩ v) a ps :=
  h.keep ((Below.refl _ _).setCell hB v) (fun g h1 h2 => Below.heap_setCell _ _ _ _ (by show g ≠ b; omega))
def PartT (B : Nat) (w : World) (a : Option Addr) (ps : List Part) : Prop := ∃ vs, (vs = [] ∨ ∃ g, a = some ⟨g, 0, none⟩ ∧ g < w.heap.size ∧ (∃ cur, w.heap[g]? = some (.cells cur 105 (0, 0))) ∧ ∀ (k : Nat) v, vs[k]? = some v → w.cell? ⟨g, k, none⟩ = some v) ∧ vs.length = ps.length ∧ ∀ (i : Nat) p, ps[i]? = some p → ∃ v, vs[i]? = some v ∧ IsPart B w v p
theorem PartIn.typed {B lo hi : Nat} {w : World} {a : Option Addr} {ps : List Part} (h : PartIn B lo hi w a ps) : PartT B w a ps := by
 obtain ⟨vs, h1, h2, h3⟩ := h
 exact ⟨vs, h1.imp id fun ⟨g, h4, h5, h6, ⟨cur, h8⟩, h7⟩ => ⟨g, h4, (Array.getElem?_eq_some_iff.1 h8).1, ⟨cur, h8⟩, h7⟩, h2, h3⟩
theorem PartT.row {B : Nat} {w : World} {a : Option Addr} {ps : List Part} (h : PartT B w a ps) (hB : B ≤ w.heap.size) : PartRow w.heap.size w a ps := by
 obtain ⟨vs, h1, h2, h3⟩ := h
 refine ⟨vs, ?_, h2, fun i p hp => by obtain ⟨v, h4, h5⟩ := h3 i p hp; exact ⟨v, h4, h5.mono hB⟩⟩
 rcases h1 with h1 | ⟨g, h4, h6, -, h7⟩
 ·exact .inl h1
 ·exact .inr ⟨g, 0, h4, h6, fun k v hv => by rw [Nat.zero_add]; exact h7 k v hv⟩
structure Grt where
  word : ByteArray
  parts : List Part
  least : Int
  most : Int
def IsGr (B : Nat) (w : World) (cs : List Value) (g : Grt) : Prop :=
  ∃ a c, cs = [.string g.word, .slice a g.parts.length c, .int .i64 g.least, .int .i64 g.most] ∧ SlOk a g.parts.length c ∧ PartRow B w a g.parts
theorem IsGr.below {B B' : Nat} {w w' : World} {cs : List Value} {g : Grt} (h : IsGr B w cs g) (hb : Below B' w w') (hB : B ≤ B') : IsGr B w' cs g := by
 obtain ⟨a, c, h1, h2, h3⟩ := h
 exact ⟨a, c, h1, h2, h3.below hb hB⟩
theorem IsGr.mono {B B' : Nat} {w : World} {cs : List Value} {g : Grt} (h : IsGr B w cs g) (hB : B ≤ B') : IsGr B' w cs g := by
 obtain ⟨a, c, h1, h2, h3⟩ := h
 exact ⟨a, c, h1, h2, h3.mono hB⟩
def IsGt (B : Nat) (w : World) (cs : List Value) (g : Grt) : Prop :=
  ∃ a c, cs = [.string g.word, .slice a g.parts.length c, .int .i64 g.least, .int .i64 g.most] ∧ SlOk a g.parts.length c ∧ PartT B w a g.parts
theorem IsGt.gr {B : Nat} {w : World} {cs : List Value} {g : Grt} (h : IsGt B w cs g) (hB : B ≤ w.heap.size) : IsGr w.heap.size w cs g := by
 obtain ⟨a, c, h1, h2, h3⟩ := h
 exact ⟨a, c, h1, h2, h3.row hB⟩
def emptyX : Ex := .mk 0 ⟨#[]⟩ emptyV [] []
def bareC (k : Int) : Clt := ⟨k, [], [], emptyX, ⟨#[]⟩, [], false, [], [], [], [], [], false⟩
def hasC (c : Clt) : Clt :=
  if c.kind = 1 then { bareC c.kind with paths := c.paths, whr := c.whr }
  else if c.kind = 2 then { bareC c.kind with e := c.e, var := c.var }
  else if c.kind = 3 then { bareC c.kind with whr := c.whr, items := c.items, uniq := c.uniq, order := c.order, skip := c.skip, limit := c.limit }
  else if c.kind = 9 then { bareC c.kind with items := c.items, uniq := c.uniq, order := c.order, skip := c.skip, limit := c.limit }
  else if c.kind = 4 ∨ c.kind = 5 then { bareC c.kind with paths := c.paths }
  else if c.kind = 6 ∨ c.kind = 7 then { bareC c.kind with sets := c.sets }
  else if c.kind = 8 then { bareC c.kind with vars := c.vars, detach := c.detach }
  else bareC c.kind
def whereG (c : Clt) : Grt := ⟨⟨#[32, 87, 72, 69, 82, 69, 32]⟩, c.whr.map .ex, 0, 1⟩
def pathsG (c : Clt) (word : ByteArray) (most : Int) : Grt := ⟨word, c.paths.map .pt, 1, most⟩
def itemsG (c : Clt) (word : ByteArray) : Grt := ⟨word, c.items.map .it, 1, 1048576⟩
def setsG (c : Clt) (word : ByteArray) : Grt := ⟨word, c.sets.map (fun s => .si s (c.kind == 6)), 1, 1048576⟩
def tailG (c : Clt) : List Grt := [⟨⟨#[32, 79, 82, 68, 69, 82, 32, 66, 89, 32]⟩, c.order.map .so, 0, 1048576⟩, ⟨⟨#[32, 83, 75, 73, 80, 32]⟩, c.skip.map .ex, 0, 1⟩, ⟨⟨#[32, 76, 73, 77, 73, 84, 32]⟩, c.limit.map .ex, 0, 1⟩]
def uniqW (c : Clt) : ByteArray := if c.uniq = true then ⟨#[68, 73, 83, 84, 73, 78, 67, 84, 32]⟩ else ⟨#[]⟩
def mergeBad (c : Clt) : Bool := match c.paths with
  | [p] => decide (0 < p.edges.length)
  | _ => false
def groupsL (c : Clt) : List Grt :=
  if c.kind = 1 then [pathsG c ⟨#[77, 65, 84, 67, 72, 32]⟩ 1048576, whereG c]
  else if c.kind = 2 then [⟨⟨#[85, 78, 87, 73, 78, 68, 32]⟩, [.ex c.e], 1, 1⟩, ⟨⟨#[32, 65, 83, 32]⟩, [.nm c.var], 1, 1⟩]
  else if c.kind = 3 then itemsG c (⟨#[87, 73, 84, 72, 32]⟩ ++ uniqW c) :: (tailG c ++ [whereG c])
  else if c.kind = 9 then itemsG c (⟨#[82, 69, 84, 85, 82, 78, 32]⟩ ++ uniqW c) :: tailG c
  else if c.kind = 4 then [pathsG c ⟨#[67, 82, 69, 65, 84, 69, 32]⟩ 1048576]
  else if c.kind = 5 then (if mergeBad c = true then [] else [pathsG c ⟨#[77, 69, 82, 71, 69, 32]⟩ 1])
  else if c.kind = 6 then [setsG c ⟨#[83, 69, 84, 32]⟩]
  else if c.kind = 7 then [setsG c ⟨#[82, 69, 77, 79, 86, 69, 32]⟩]
  else if c.kind = 8 then [⟨if c.detach = true then ⟨#[68, 69, 84, 65, 67, 72, 32, 68, 69, 76, 69, 84, 69, 32]⟩ else ⟨#[68, 69, 76, 69, 84, 69, 32]⟩, c.vars.map .nm, 1, 1048576⟩]
  else []
def groupsB (c : Clt) : Bool := if c.kind = 5 ∧ mergeBad c = true then false else alikeB c (hasC c)
def setCs (cur : List Value) : Nat → List Value → List Value
  | _, [] => cur
  | o, v :: r => setCs (cur.set o v) (o + 1) r
theorem Block.setCells {b : Nat} {t : TypeId} : ∀ (vs : List Value) (o : Nat) (w : World) (cur : List Value), Block w b cur t → Block (w.setCells b o vs) b (setCs cur o vs) t
  | [], _, _, _, h => h
  | v :: r, o, _, _, h => Block.setCells r (o + 1) _ _ (h.set o v)
theorem Block.setCells_other {b b' : Nat} {t : TypeId} (hne : b' ≠ b) {cur : List Value} : ∀ (vs : List Value) (o : Nat) (w : World), Block w b' cur t → Block (w.setCells b o vs) b' cur t
  | [], _, _, h => h
  | v :: r, o, _, h => Block.setCells_other hne r (o + 1) _ (h.set_other (a := ⟨b, o, none⟩) hne v)
theorem below_setCells {C b : Nat} {W : World} (hb : C ≤ b) : ∀ (vs : List Value) (o : Nat) (w : World), Below C W w → Below C W (w.setCells b o vs)
  | [], _, _, h => h
  | v :: r, o, _, h => below_setCells hb r (o + 1) _ (h.setCell hb v)
theorem setCells_size {b : Nat} : ∀ (vs : List Value) (o : Nat) (w : World), (w.setCells b o vs).heap.size = w.heap.size
  | [], _, _ => rfl
  | v :: r, o, w => by
    show (World.setCells (w.setCell ⟨b, o, none⟩ v) b (o + 1) r).heap.size = _
    rw [setCells_size r (o + 1)]; simp
theorem block_there {w : World} {b : Nat} {cur : List Value} {t : TypeId} (h : Block w b cur t) (o n : Nat) (hn : o + n ≤ cur.length) : w.there b o n := by
 intro j hj
 refine ⟨?_, h.free _⟩
 rw [h.cell (i := o + j) (v := cur[o + j]'(by omega)) (List.getElem?_eq_getElem _)]
 rfl
theorem setCells_other {b q : Nat} (hq : q ≠ b) : ∀ (vs : List Value) (o : Nat) (w : World), (w.setCells b o vs).heap[q]? = w.heap[q]?
  | [], _, _ => rfl
  | v :: r, o, w => by
    show (World.setCells (w.setCell ⟨b, o, none⟩ v) b (o + 1) r).heap[q]? = _
    rw [setCells_other hq r (o + 1)]; exact Below.heap_setCell _ _ _ _ hq
theorem mk_box {C : Nat} {W0 : World} (u : Ext C W0) (hC : C ≤ W0.heap.size) (zs vals : List Value) (t : TypeId) (hv : setCs zs 0 vals = vals) (hl : vals.length ≤ zs.length) :
    ∃ u2 : Ext C W0, (u.w.alloc (.cells zs.toArray t)).setCells u.w.heap.size 0 vals = u2.w ∧ Below u.w.heap.size u.w u2.w ∧ Block u2.w u.w.heap.size vals t ∧ u.w.heap.size < u2.w.heap.size ∧ (u.w.alloc (.cells zs.toArray t)).there u.w.heap.size 0 vals.length := by
 have hCu : C ≤ u.w.heap.size := Nat.le_trans hC u.below.size
 have hn : Block (u.w.alloc (.cells zs.toArray t)) u.w.heap.size zs t := Block.new _ _ _
 have hb : Block ((u.w.alloc (.cells zs.toArray t)).setCells u.w.heap.size 0 vals) u.w.heap.size vals t := by have := hn.setCells vals 0; rw [hv] at this; exact this
 exact ⟨⟨_, below_setCells hCu vals 0 _ (u.below.alloc hCu _)⟩, rfl, below_setCells (Nat.le_refl _) vals 0 _ ((Below.refl _ _).alloc (Nat.le_refl _) _), hb, hb.lt, block_there hn 0 _ (by omega)⟩
theorem mk_alloc {C : Nat} {W0 : World} (u : Ext C W0) (hC : C ≤ W0.heap.size) (cells : List Value) (t : TypeId) :
    ∃ u2 : Ext C W0, u.w.alloc (.cells cells.toArray t) = u2.w ∧ Below u.w.heap.size u.w u2.w ∧ Block u2.w u.w.heap.size cells t ∧ u.w.heap.size < u2.w.heap.size :=
  ⟨⟨_, u.below.alloc (Nat.le_trans hC u.below.size) _⟩, rfl, (Below.refl _ _).alloc (Nat.le_refl _) _, Block.new _ _ _, (Block.new u.w cells t).lt⟩
theorem mk_store {C : Nat} {W0 : World} (u : Ext C W0) (b : Nat) (hC : C ≤ b) (j : Nat) (v : Value) :
    ∃ u2 : Ext C W0, u.w.setCell ⟨b, j, none⟩ v = u2.w ∧ u2.w.heap.size = u.w.heap.size ∧ ∀ q, q ≠ b → u2.w.heap[q]? = u.w.heap[q]? :=
  ⟨⟨_, u.below.setCell hC v⟩, rfl, by show (u.w.setCell _ v).heap.size = _; simp, fun q hq => Below.heap_setCell _ _ _ _ hq⟩
theorem mk_stores {C : Nat} {W0 : World} (u : Ext C W0) (b : Nat) (hC : C ≤ b) (o : Nat) (vs : List Value) :
    ∃ u2 : Ext C W0, u.w.setCells b o vs = u2.w ∧ u2.w.heap.size = u.w.heap.size ∧ ∀ q, q ≠ b → u2.w.heap[q]? = u.w.heap[q]? :=
  ⟨⟨_, below_setCells hC vs o _ u.below⟩, rfl, setCells_size vs o _, fun q hq => setCells_other hq vs o _⟩
theorem ext_next {C : Nat} {W0 w2 : World} (u : Ext C W0) (hC : C ≤ W0.heap.size) (hb : Below u.w.heap.size u.w w2) : ∃ v : Ext C W0, w2 = v.w := ⟨⟨w2, u.below.trans (hb.mono (Nat.le_trans hC u.below.size))⟩, rfl⟩
theorem nil_row {α : Type} {R : List Value → α → Prop} {s B : Nat} {w : World} {a : Option Addr} : RowR R s B w a [] := fun i o h => by simp at h
theorem nil_sl : SlOk none 0 0 := ⟨⟨Nat.le_refl _, by omega⟩, fun _ => rfl⟩
def zeroX : List Value := [.int .i64 0, .string ⟨#[]⟩, .int .i64 0, .bool false, .int .i64 0, .string ⟨#[]⟩, .slice none 0 0, .slice none 0 0, .slice none 0 0, .slice none 0 0]
theorem zero_isX (B : Nat) (w : World) : IsX B w zeroX emptyX := by
 unfold emptyX IsX
 refine ⟨zeroC, none, 0, none, 0, rfl, by unfold in64; omega, empty_isV _ _, nil_sl, nil_sl, ?_, ?_⟩
 ·exact Cells.nil
 ·unfold IsXs; trivial
theorem len_sum {α : Type} {f : α → Nat} (hf : ∀ x, 1 ≤ f x) : ∀ l : List α, l.length ≤ (l.map f).sum
  | [] => by simp
  | x :: l => by have := len_sum hf l; have := hf x; simp; omega
theorem wtCl_lens {c : Clt} (h : wtCl c ≤ 1048576) : c.paths.length ≤ 1048576 ∧ c.whr.length ≤ 1048576 ∧ c.items.length ≤ 1048576 ∧ c.order.length ≤ 1048576 ∧ c.skip.length ≤ 1048576 ∧ c.limit.length ≤ 1048576 ∧ c.sets.length ≤ 1048576 ∧ c.vars.length ≤ 1048576 := by
 have h1 := len_sum (f := wtPt) (fun x => by unfold wtPt; omega) c.paths
 have h2 := wtXs_len c.whr
 have h3 := len_sum (f := wtIt) (fun x => by unfold wtIt; omega) c.items
 have h4 := len_sum (f := wtSo) (fun x => by unfold wtSo; omega) c.order
 have h5 := wtXs_len c.skip
 have h6 := wtXs_len c.limit
 have h7 := len_sum (f := wtSi) (fun x => by unfold wtSi; omega) c.sets
 have h8 := wtS_len c.vars
 unfold wtCl at h
 omega
theorem step_store_mid {P : Program} {ops : Array Oper} {o : Oper} {a : Act} {w : World} {K : Act → World → Prop} {Q : Exit → Act → World → Prop} {E : Prop} (hgd : o.guard = none) (ty : TypeId) (x y : Operand) (ho : o.op = .store ty x y)
    (b k : Nat) (cells : Array Value) (hx : a.eval x = .pointer (some ⟨b, k, none⟩)) (hy : a.eval y = .agg cells) (ht : w.there b k cells.size) (hi : (P.info? ty).map (·.size) = some cells.size) (h1 : cells.all (·.oneCell') = true)
    (h : K (a.put o.dst undef) (w.setCells b k cells.toList)) : if Region.wanted o (yielded ops a.tmps) = true then Oper.wp P o a w K Q else E := by
 rw [if_pos (by simp [Region.wanted, hgd])]
 exact wp_store_mid ty x y ho b k cells hx hy ht hi h1 h
theorem grflat_get : ∀ (css : List (List Value)) (i j : Nat) (cs : List Value) (v : Value), (∀ cs ∈ css, cs.length = 4) → css[i]? = some cs → cs[j]? = some v → css.flatten[i * 4 + j]? = some v
  | [], _, _, _, _, _, h, _ => by simp at h
  | c :: r, 0, j, cs, v, hl, h, hv => by
    simp only [List.getElem?_cons_zero] at h
    have h := Option.some.inj h
    subst h
    rw [List.flatten_cons, Nat.zero_mul, Nat.zero_add, List.getElem?_append_left (List.getElem?_eq_some_iff.1 hv).1]
    exact hv
  | c :: r, i + 1, j, cs, v, hl, h, hv => by
    have h4 := hl c (List.mem_cons_self ..)
    rw [List.getElem?_cons_succ] at h
    rw [List.flatten_cons, List.getElem?_append_right (by omega), h4, show (i + 1) * 4 + j - 4 = i * 4 + j from by omega]
    exact grflat_get r i j cs v (fun cs hc => hl cs (List.mem_cons_of_mem _ hc)) h hv
theorem IsGt.len {B : Nat} {w : World} {cs : List Value} {g : Grt} (h : IsGt B w cs g) : cs.length = 4 := by
 obtain ⟨a, c, rfl, -, -⟩ := h
 rfl
inductive AllGr (B : Nat) (w : World) : List (List Value) → List Grt → Prop where
  | nil : AllGr B w [] []
  | cons {cs g css gs} (h : IsGt B w cs g) (hs : AllGr B w css gs) : AllGr B w (cs :: css) (g :: gs)
theorem AllGr.len4 {B : Nat} {w : World} {css : List (List Value)} {gs : List Grt} (h : AllGr B w css gs) : ∀ cs ∈ css, cs.length = 4 := by
 induction h with
 | nil => intro cs hc; simp at hc
 | cons h hs ih =>
  intro cs hc
  rcases List.mem_cons.1 hc with rfl | hc
  ·exact h.len
  ·exact ih cs hc
theorem AllGr.get {B : Nat} {w : World} {css : List (List Value)} {gs : List Grt} (h : AllGr B w css gs) : ∀ (i : Nat) g, gs[i]? = some g → ∃ cs, css[i]? = some cs ∧ IsGt B w cs g := by
 induction h with
 | nil => intro i g hg; simp at hg
 | cons h hs ih =>
  intro i g hg
  cases i with
  | zero => simp only [List.getElem?_cons_zero, Option.some.injEq] at hg; subst hg; exact ⟨_, rfl, h⟩
  | succ i => rw [List.getElem?_cons_succ] at hg; exact ih i g hg
def GRow (B : Nat) (w : World) (a : Option Addr) (gs : List Grt) : Prop := ∀ (i : Nat) g, gs[i]? = some g → ∃ b cs, a = some ⟨b, 0, none⟩ ∧ b < w.heap.size ∧ (∃ cur, w.heap[b]? = some (.cells cur 103 (0, 0))) ∧ (∀ j v, cs[j]? = some v → w.cell? ⟨b, i * 4 + j, none⟩ = some v) ∧ IsGt B w cs g
theorem GRow.nil {B : Nat} {w : World} {a : Option Addr} : GRow B w a [] := fun i g h => by simp at h
theorem GRow.row {B : Nat} {w : World} {a : Option Addr} {gs : List Grt} (h : GRow B w a gs) (hB : B ≤ w.heap.size) : RowR (IsGr w.heap.size w) 4 w.heap.size w a gs := by
 intro i g hg
 obtain ⟨b, cs, h1, h2, -, h4, h5⟩ := h i g hg
 exact ⟨b, 0, cs, h1, h2, h5.len, fun j v hv => by rw [Nat.zero_add]; exact h4 j v hv, h5.gr hB⟩
theorem gr_row {B : Nat} {w : World} {b : Nat} {cells : List Value} {css : List (List Value)} {gs : List Grt} (hb : Block w b cells 103) (hc : cells = css.flatten) (h : AllGr B w css gs) : GRow B w (some ⟨b, 0, none⟩) gs := by
 intro i g hg
 obtain ⟨cs, h1, h2⟩ := h.get i g hg
 refine ⟨b, cs, rfl, hb.lt, ⟨_, hb⟩, fun j v hv => hb.cell ?_, h2⟩
 rw [hc]
 exact grflat_get css i j cs v h.len4 h1 hv
theorem Tryz.infoGroup : (Tryz.prog.info? 103).map (fun i => (i.zero, i.size, i.bytes)) = some (some (.agg #[.string ⟨#[]⟩, .slice none 0 0, .int .i64 0, .int .i64 0]), 4, 56) := by kernel_rfl
theorem ownG_form {w : World} {base n size : Nat} {e : TypeId} {v : Value} {xs : List Value} (h : w.ownsRow base e size v n xs) (hn : 0 < n) : ∃ g cap, v = .slice (some ⟨g, 0, none⟩) n cap ∧ SlOk (some ⟨g, 0, none⟩) n cap ∧ base ≤ g ∧ g < w.heap.size := by
 obtain ⟨h1, h2⟩ := h
 rcases h2 with ⟨rfl, h3⟩ | ⟨g, cap, cur, rfl, hb, hh, hn', hm, hs, ht⟩
 ·omega
 ·exact ⟨g, cap, rfl, ⟨⟨hn', by unfold maxLen at hm; omega⟩, fun e => by cases e⟩, hb, (Array.getElem?_eq_some_iff.1 hh).1⟩
theorem ownG_keep {w w' : World} {base n size : Nat} {e : TypeId} {v : Value} {xs : List Value} (h : w.ownsRow base e size v n xs) (hk : ∀ q, base ≤ q → q < w.heap.size → w'.heap[q]? = w.heap[q]?) : w'.ownsRow base e size v n xs := by
 obtain ⟨h1, h2⟩ := h
 refine ⟨h1, h2.imp id ?_⟩
 rintro ⟨g, cap, cur, hv, hb, hh, r⟩
 exact ⟨g, cap, cur, hv, hb, (hk g hb (Array.getElem?_eq_some_iff.1 hh).1).trans hh, r⟩
theorem ownG_new {base n size : Nat} {e : TypeId} {w : World} {b : Nat} {xs : List Value} (h : Block w b xs e) (hb : base ≤ b) (hl : xs.length = n * size) (hn : n ≤ maxLen) : w.ownsRow base e size (.slice (some ⟨b, 0, none⟩) n n) n xs := by
 refine ⟨hl, .inr ⟨b, n, xs.toArray, rfl, hb, h, Nat.le_refl _, hn, by simp [hl], ?_⟩⟩
 rw [← hl]; simp
theorem ownG_cell {w : World} {base n size g cap : Nat} {e : TypeId} {xs : List Value} (h : w.ownsRow base e size (.slice (some ⟨g, 0, none⟩) n cap) n xs) {k : Nat} {v : Value} (hv : xs[k]? = some v) : w.cell? ⟨g, k, none⟩ = some v := by
 obtain ⟨h1, h2⟩ := h
 rcases h2 with ⟨h, h3⟩ | ⟨g', cap', cur, he, hb, hh, hn, hm, hs, ht⟩
 ·cases h
 ·injection he with h5
  injection h5 with h5
  injection h5 with h5
  subst h5
  rw [← ht] at hv
  have hk : k < n * size := by have := (List.getElem?_eq_some_iff.1 hv).1; rw [List.length_take] at this; omega
  rw [List.getElem?_take_of_lt hk] at hv
  rw [Lib.cell_of_heap hh]
  simpa using hv
theorem ownG_set {w : World} {base n size g cap : Nat} {e : TypeId} {xs : List Value} (h : w.ownsRow base e size (.slice (some ⟨g, 0, none⟩) n cap) n xs) (k : Nat) (v : Value) : (w.setCell ⟨g, k, none⟩ v).ownsRow base e size (.slice (some ⟨g, 0, none⟩) n cap) n (xs.set k v) := by
 obtain ⟨h1, h2⟩ := h
 refine ⟨by simpa using h1, ?_⟩
 rcases h2 with ⟨h2, _⟩ | ⟨g', cap', cur, e1, e2, e3, e4, e5, e6, e7⟩
 ·cases h2
 ·injection e1 with e1 _ ec
  injection e1 with e1
  injection e1 with e1
  subst e1 ec
  have hb : Block w g cur.toList e := by unfold Block; simpa using e3
  have hs := hb.set k v
  refine .inr ⟨g, cap, cur.setIfInBounds k v, rfl, e2, ?_, e4, e5, by simpa using e6, ?_⟩
  ·unfold Block at hs
   rw [hs]
   congr 2
   apply Array.ext'
   simp
  ·rw [Array.toList_setIfInBounds, List.take_set, e7]
theorem gr_own {B base n g cap : Nat} {w : World} {cells : List Value} {css : List (List Value)} {gs : List Grt} (h : w.ownsRow base 103 4 (.slice (some ⟨g, 0, none⟩) n cap) n cells) (hc : cells = css.flatten) (ha : AllGr B w css gs) : GRow B w (some ⟨g, 0, none⟩) gs := by
 have ht : ∃ cur, w.heap[g]? = some (.cells cur 103 (0, 0)) := by
  obtain ⟨h1, h2⟩ := h
  rcases h2 with ⟨h, h3⟩ | ⟨g', cap', cur, he, hb, hh, hn, hm, hs, ht⟩
  ·cases h
  ·injection he with h5
   injection h5 with h5
   injection h5 with h5
   subst h5
   exact ⟨cur, hh⟩
 intro i x hx
 obtain ⟨cs, h1, h2⟩ := ha.get i x hx
 obtain ⟨cur, hcur⟩ := ht
 refine ⟨g, cs, rfl, (Array.getElem?_eq_some_iff.1 hcur).1, ⟨cur, hcur⟩, fun j v hv => ownG_cell h ?_, h2⟩
 rw [hc]
 exact grflat_get css i j cs v ha.len4 h1 hv
theorem rangeAt_block {w : World} {b : Nat} {cs : List Value} {t : TypeId} (h : Block w b cs t) : w.rangeAt b 0 cs := fun j v hv => by rw [Nat.zero_add]; exact h.cell hv
theorem rangeAt_ext {C : Nat} {W0 : World} (u : Ext C W0) {b : Nat} {cs : List Value} (h : W0.rangeAt b 0 cs) (hb : b < C) : u.w.rangeAt b 0 cs := fun j v hv => by rw [u.below.cell (by show b < C; exact hb)]; exact h j v hv
structure Stand (p : Prop) : Prop where
  out : p
theorem part_one {B : Nat} {w : World} {b hi : Nat} {v : Value} {p : Part} (h : Block w b [v] 105) (hh : b < hi) (hp : IsPart B w v p) : PartIn B b hi w (some ⟨b, 0, none⟩) [p] := by
 refine ⟨[v], .inr ⟨b, rfl, Nat.le_refl _, hh, ⟨_, h⟩, fun k x hx => h.cell hx⟩, rfl, fun i q hq => ?_⟩
 cases i with
 | zero => simp only [List.getElem?_cons_zero, Option.some.injEq] at hq; subst hq; exact ⟨v, rfl, hp⟩
 | succ i => simp at hq
theorem one_sl {b : Nat} : SlOk (some ⟨b, 0, none⟩) 1 1 := ⟨⟨Nat.le_refl _, by omega⟩, fun h => by cases h⟩
theorem ownG_free {w : World} {base n size g cap k : Nat} {e : TypeId} {xs : List Value} (h : w.ownsRow base e size (.slice (some ⟨g, 0, none⟩) n cap) n xs) : w.frozen? ⟨g, k, none⟩ = false := by
 obtain ⟨h1, h2⟩ := h
 rcases h2 with ⟨h, h3⟩ | ⟨g', cap', cur, he, hb, hh, hn, hm, hs, ht⟩
 ·cases h
 ·injection he with h5
  injection h5 with h5
  injection h5 with h5
  subst h5
  have hb : Block w g cur.toList e := by unfold Block; simpa using hh
  exact hb.free k
theorem ownG_sl {w : World} {base n size g cap : Nat} {e : TypeId} {xs : List Value} (h : w.ownsRow base e size (.slice (some ⟨g, 0, none⟩) n cap) n xs) : SlOk (some ⟨g, 0, none⟩) n cap ∧ base ≤ g := by
 obtain ⟨h1, h2⟩ := h
 rcases h2 with ⟨h, h3⟩ | ⟨g', cap', cur, he, hb, hh, hn, hm, hs, ht⟩
 ·cases h
 ·injection he with h5 _ h6
  injection h5 with h5
  injection h5 with h5
  subst h5 h6
  exact ⟨⟨⟨hn, by unfold maxLen at hm; omega⟩, fun e => by cases e⟩, hb⟩
theorem mk_gr {B lo hi n c : Nat} {w : World} {a : Option Addr} {ps : List Part} (h : PartIn B lo hi w a ps) (hn : ps.length = n) (hs : SlOk a n c) (word : ByteArray) (least most : Int) :
    IsGt B w [.string word, .slice a n c, .int .i64 least, .int .i64 most] ⟨word, ps, least, most⟩ := by
 subst hn
 exact ⟨a, c, rfl, hs, h.typed⟩
theorem cl22 {C : Nat} {W0 : World} {b : Nat} {x0 x1 x2 x3 x4 x5 x6 x7 x8 x9 x10 x11 x12 x13 x14 x15 x16 x17 x18 x19 x20 x21 : Value} (h : ∀ (u : Ext C W0) (i : Nat) v, [x0, x1, x2, x3, x4, x5, x6, x7, x8, x9, x10, x11, x12, x13, x14, x15, x16, x17, x18, x19, x20, x21][i]? = some v → u.w.cell? ⟨b, i, none⟩ = some v) :
    (∀ u : Ext C W0, u.w.cell? ⟨b, 0, none⟩ = some x0) ∧ (∀ u : Ext C W0, u.w.cell? ⟨b, 1, none⟩ = some x1) ∧ (∀ u : Ext C W0, u.w.cell? ⟨b, 2, none⟩ = some x2) ∧ (∀ u : Ext C W0, u.w.cell? ⟨b, 3, none⟩ = some x3) ∧ (∀ u : Ext C W0, u.w.cell? ⟨b, 4, none⟩ = some x4) ∧ (∀ u : Ext C W0, u.w.cell? ⟨b, 5, none⟩ = some x5) ∧ (∀ u : Ext C W0, u.w.cell? ⟨b, 6, none⟩ = some x6) ∧ (∀ u : Ext C W0, u.w.cell? ⟨b, 7, none⟩ = some x7) ∧ (∀ u : Ext C W0, u.w.cell? ⟨b, 8, none⟩ = some x8) ∧ (∀ u : Ext C W0, u.w.cell? ⟨b, 9, none⟩ = some x9) ∧ (∀ u : Ext C W0, u.w.cell? ⟨b, 10, none⟩ = some x10) ∧ (∀ u : Ext C W0, u.w.cell? ⟨b, 11, none⟩ = some x11) ∧ (∀ u : Ext C W0, u.w.cell? ⟨b, 12, none⟩ = some x12) ∧ (∀ u : Ext C W0, u.w.cell? ⟨b, 13, none⟩ = some x13) ∧ (∀ u : Ext C W0, u.w.cell? ⟨b, 14, none⟩ = some x14) ∧ (∀ u : Ext C W0, u.w.cell? ⟨b, 15, none⟩ = some x15) ∧ (∀ u : Ext C W0, u.w.cell? ⟨b, 16, none⟩ = some x16) ∧ (∀ u : Ext C W0, u.w.cell? ⟨b, 17, none⟩ = some x17) ∧ (∀ u : Ext C W0, u.w.cell? ⟨b, 18, none⟩ = some x18) ∧ (∀ u : Ext C W0, u.w.cell? ⟨b, 19, none⟩ = some x19) ∧ (∀ u : Ext C W0, u.w.cell? ⟨b, 20, none⟩ = some x20) ∧ (∀ u : Ext C W0, u.w.cell? ⟨b, 21, none⟩ = some x21) :=
  ⟨fun u => h u 0 _ rfl, fun u => h u 1 _ rfl, fun u => h u 2 _ rfl, fun u => h u 3 _ rfl, fun u => h u 4 _ rfl, fun u => h u 5 _ rfl, fun u => h u 6 _ rfl, fun u => h u 7 _ rfl, fun u => h u 8 _ rfl, fun u => h u 9 _ rfl, fun u => h u 10 _ rfl, fun u => h u 11 _ rfl, fun u => h u 12 _ rfl, fun u => h u 13 _ rfl, fun u => h u 14 _ rfl, fun u => h u 15 _ rfl, fun u => h u 16 _ rfl, fun u => h u 17 _ rfl, fun u => h u 18 _ rfl, fun u => h u 19 _ rfl, fun u => h u 20 _ rfl, fun u => h u 21 _ rfl⟩
theorem cy_one (D : Nat) {W : World} {b j : Nat} {x : Value} (h : W.cell? ⟨b, j, none⟩ = some x) (hb : b < D) : ∀ v : Ext D W, v.w.cell? ⟨b, j, none⟩ = some x := fun v => v.cell hb h
theorem cz4 (D : Nat) {W : World} {b : Nat} {x0 x1 x2 x3 : Value} {t : TypeId} (h : Block W b [x0, x1, x2, x3] t) (hb : b < D) :
    (∀ v : Ext D W, v.w.cell? ⟨b, 0, none⟩ = some x0) ∧ (∀ v : Ext D W, v.w.cell? ⟨b, 1, none⟩ = some x1) ∧ (∀ v : Ext D W, v.w.cell? ⟨b, 2, none⟩ = some x2) ∧ (∀ v : Ext D W, v.w.cell? ⟨b, 3, none⟩ = some x3) :=
  ⟨cy_one D (h.cell (i := 0) rfl) hb, cy_one D (h.cell (i := 1) rfl) hb, cy_one D (h.cell (i := 2) rfl) hb, cy_one D (h.cell (i := 3) rfl) hb⟩
theorem al_box {C : Nat} {W0 : World} (u : Ext C W0) (hC : C ≤ W0.heap.size) (cells : List Value) (t : TypeId) :
    ∃ u2 : Ext C W0, Hid (u.w.alloc (.cells cells.toArray t) = u2.w) ∧ Hid (Below u.w.heap.size u.w u2.w) ∧ Hid (Block u2.w u.w.heap.size cells t) ∧ Hid (u.w.heap.size < u2.w.heap.size) := by
 obtain ⟨u2, h1, h2, h3, h4⟩ := mk_alloc u hC cells t
 exact ⟨u2, Lib.hid h1, Lib.hid h2, Lib.hid h3, Lib.hid h4⟩
theorem Sq244175 {P : Prop} (h : P := by
 intro vs
 induction vs with
 | nil => intro cur o h; simp only [setCs, List.append_nil]; rw [List.take_of_length_le (by simp at h; omega)]
 | cons v vs ih =>
  intro cur o h
  simp only [List.length_cons] at h
  rw [setCs, ih _ _ (by rw [List.length_set]; omega), List.take_set, List.take_add_one, List.getElem?_eq_getElem (by omega)]
  simp only [Option.toList_some]
  rw [List.set_append_right _ _ (by rw [List.length_take]; omega), List.length_take, Nat.min_eq_left (by omega)]
  simp) : P := h
theorem setCs_all : ∀ (vs cur : List Value) (o : Nat), o + vs.length = cur.length → setCs cur o vs = cur.take o ++ vs := Sq244175
theorem nw_box {C : Nat} {W0 : World} (u : Ext C W0) (hC : C ≤ W0.heap.size) (zs vals : List Value) (t : TypeId) (hl : vals.length = zs.length := by rfl) :
    ∃ u2 : Ext C W0, Hid ((u.w.alloc (.cells zs.toArray t)).setCells u.w.heap.size 0 vals.toArray.toList = u2.w) ∧ Hid (Below u.w.heap.size u.w u2.w) ∧ Hid (Block u2.w u.w.heap.size vals t) ∧ Hid (u.w.heap.size < u2.w.heap.size) ∧ Hid ((u.w.alloc (.cells zs.toArray t)).there u.w.heap.size 0 vals.length) := by
 obtain ⟨u2, h1, h2, h3, h4, h5⟩ := mk_box u hC zs vals t (by rw [setCs_all _ _ _ (by omega)]; rfl) (by omega)
 exact ⟨u2, Lib.hid h1, Lib.hid h2, Lib.hid h3, Lib.hid h4, Lib.hid h5⟩
theorem mk_drew {C : Nat} {W0 : World} (u : Ext C W0) : ∃ v : Ext C W0, Hid (u.w.drew = v.w) ∧ Hid (Below u.w.heap.size u.w v.w) ∧ Hid (u.w.heap.size ≤ v.w.heap.size) :=
  ⟨⟨_, u.below.drew⟩, Lib.hid rfl, Lib.hid (Below.refl _ _).drew, Lib.hid (Nat.le_refl _)⟩
theorem mk_start (D : Nat) (W : World) {b : Nat} {cells : List Value} {t : TypeId} (h : Hid (Block W b cells t)) : ∃ v : Ext D W, Hid (W.drew = v.w) ∧ Hid (Block v.w b cells t) ∧ Hid (W.heap.size ≤ v.w.heap.size) :=
  ⟨⟨_, (Below.refl _ _).drew⟩, Lib.hid rfl, Lib.hid h.out.drew, Lib.hid (Nat.le_refl _)⟩
theorem mk_draw {C : Nat} {W0 : World} (u : Ext C W0) {b : Nat} {cells : List Value} {t : TypeId} (h : Hid (Block u.w b cells t)) : ∃ v : Ext C W0, Hid (u.w.drew = v.w) ∧ Hid (Block v.w b cells t) ∧ Hid (v.w.heap.size = u.w.heap.size) :=
  ⟨⟨_, u.below.drew⟩, Lib.hid rfl, Lib.hid h.out.drew, Lib.hid rfl⟩
theorem own_drew {w w' : World} {base n size : Nat} {e : TypeId} {v : Value} {xs : List Value} (h : w.ownsRow base e size v n xs) (he : w.drew = w') : w'.ownsRow base e size v n xs := by subst he; exact h
theorem st_box {C : Nat} {W0 : World} (u : Ext C W0) {b : Nat} {cells : List Value} {t : TypeId} (hb : Hid (Block u.w b cells t)) (hC : C ≤ b) (j : Nat) {old : Value} (v : Value) (hj : cells[j]? = some old := by rfl) :
    ∃ u2 : Ext C W0, Hid (u.w.setCell ⟨b, j, none⟩ v = u2.w) ∧ Hid (u2.w.heap.size = u.w.heap.size) ∧ Hid (∀ q, q ≠ b → u2.w.heap[q]? = u.w.heap[q]?) ∧ Hid (Block u2.w b (cells.set j v) t) ∧ u.w.cell? ⟨b, j, none⟩ = some old ∧ u.w.frozen? ⟨b, j, none⟩ = false := by
 obtain ⟨u2, h1, h2, h3⟩ := mk_store u b hC j v
 exact ⟨u2, Lib.hid h1, Lib.hid h2, Lib.hid h3, Lib.hid (by rw [← h1]; exact hb.out.set j v), hb.out.cell hj, hb.out.free j⟩
theorem below_tr {a b c : World} (h : Below a.heap.size a b) (k : Below b.heap.size b c) : Below a.heap.size a c := h.trans (k.mono h.size)
theorem PartIn.moved {B lo hi b j : Nat} {w w' : World} {a : Option Addr} {ps : List Part} {v : Value} (h : PartIn B lo hi w a ps) (he : w.setCell ⟨b, j, none⟩ v = w') (hB : B ≤ b) (hb : b < lo ∨ hi ≤ b) : PartIn B lo hi w' a ps := he ▸ h.store hB hb j v
theorem rg_of {B b : Nat} {w : World} {cs ds : List Value} {c : Clt} (h : IsCl B w cs c) (h2 : w.rangeAt b 0 ds) (he : ds = cs := by rfl) : w.rangeAt b 0 cs := he ▸ h2
theorem of_step {C B : Nat} {W0 : World} {P : Program} {f : FuncId} {args : Array Value} {n : Nat} {ps : List Part} (hC : C ≤ W0.heap.size)
    (h : ∀ u : Ext C W0, Calls P f args u.w fun e w' => ∃ a c, e = .returned (.slice a n c) ∧ SlOk a n c ∧ PartOwn B u.w.heap.size w' a ps ∧ Below u.w.heap.size u.w w') :
    Hid (∀ u : Ext C W0, Calls P f args u.w fun e w' => ∃ a c, ∃ v : Ext C W0, e = .returned (.slice a n c) ∧ w' = v.w ∧ Hid (SlOk a n c) ∧ Hid (PartIn B u.w.heap.size v.w.heap.size v.w a ps) ∧ Hid (Below u.w.heap.size u.w v.w) ∧ Hid (u.w.heap.size ≤ v.w.heap.size)) :=
  Lib.hid fun u => (h u).mono fun e w' ⟨a, c, h1, h2, h3, h4⟩ => ⟨a, c, ⟨w', u.below.trans (h4.mono (Nat.le_trans hC u.below.size))⟩, h1, rfl, Lib.hid h2, Lib.hid h3.inside, Lib.hid h4, Lib.hid h4.size⟩
end Go.Proofs.YteljlahcdipilaaGreat

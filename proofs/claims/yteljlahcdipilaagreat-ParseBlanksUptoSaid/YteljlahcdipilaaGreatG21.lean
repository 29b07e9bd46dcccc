/- Parts X30 of this seat (pruned, scripts that are alike kept once as default arguments: q1, q2, ..). Conditions: each says its own. -/
import Derived.Test.YteljlahcdipilaaGreatG20
set_option linter.unusedSimpArgs false
set_option linter.unusedVariables false
set_option maxRecDepth 1000000
set_option maxHeartbeats 64000000
namespace Go.Proofs.YteljlahcdipilaaGreat
open Go.RowKit Go.Shelf
theorem fI.below {B B' : Nat} {w w' : World} {a : Option Addr} {ps : List ch} (h : fI B w a ps) (hb : Below B' w w') (hB : B <= B') : fI B w' a ps := by
 obtain ⟨vs, h1, h2, h3⟩ := h;exact ⟨vs, h1.below hb hB, h2, fun i p hp => by obtain ⟨v, h4, h5⟩ := h3 i p hp; exact ⟨v, h4, h5.below hb hB⟩⟩
theorem fI.mono {B B' : Nat} {w : World} {a : Option Addr} {ps : List ch} (h : fI B w a ps) (hB : B <= B') : fI B' w a ps := by
 obtain ⟨vs, h1, h2, h3⟩ := h;exact ⟨vs, h1.mono hB, h2, fun i p hp => by obtain ⟨v, h4, h5⟩ := h3 i p hp; exact ⟨v, h4, h5.mono hB⟩⟩
def dz (B lo hi : Nat) (w : World) (a : Option Addr) (ps : List ch) : Prop := ∃ vs, (vs = [] \/ ∃ g, a = some ⟨g, 0, none⟩ /\ lo <= g /\ g < hi /\ (∃ cur, w.heap[g]? = some (.cells cur 105 (0, 0))) /\ ∀ (k : Nat) v, vs[k]? = some v -> w.cell? ⟨g, k, none⟩ = some v) /\ vs.length = ps.length /\ ∀ (i : Nat) p, ps[i]? = some p -> ∃ v, vs[i]? = some v /\ cj B w v p
theorem bL.inside {B lo : Nat} {w : World} {a : Option Addr} {ps : List ch} (h : bL B lo w a ps) : dz B lo w.heap.size w a ps := h
theorem dz.keep {B lo hi : Nat} {w w' : World} {a : Option Addr} {ps : List ch} (h : dz B lo hi w a ps) (hb : Below B w w') (hk : ∀ g, lo <= g -> g < hi -> w'.heap[g]? = w.heap[g]?) : dz B lo hi w' a ps := by
 obtain ⟨vs, h1, h2, h3⟩ := h;refine ⟨vs, h1.imp id ?_, h2, fun i p hp => by obtain ⟨v, h4, h5⟩ := h3 i p hp; exact ⟨v, h4, h5.below hb (Nat.le_refl _)⟩⟩;rintro ⟨g, h4, h5, h6, ⟨cur, h8⟩, h7⟩;refine ⟨g, h4, h5, h6, ⟨cur, (hk g h5 h6).trans h8⟩, fun k v hv => ?_⟩;rw [<- h7 k v hv];simp only [World.cell?, hk g h5 h6]
theorem dz.below {B lo hi D : Nat} {w w' : World} {a : Option Addr} {ps : List ch} (h : dz B lo hi w a ps) (hb : Below D w w') (hB : B <= D) (hh : hi <= D) : dz B lo hi w' a ps :=
  h.keep (hb.mono hB) (fun g _ hg => hb.block g (by omega))
theorem dz.store {B lo hi b : Nat} {w : World} {a : Option Addr} {ps : List ch} (h : dz B lo hi w a ps) (hB : B <= b) (hb : b < lo \/ hi <= b) (j : Nat) (v : Value) : dz B lo hi (w.setCell ⟨b, j, none⟩ v) a ps :=
  h.keep ((Below.refl _ _).setCell hB v) (fun g h1 h2 => Below.heap_setCell _ _ _ _ (by show g ≠ b; omega))
def sh (B : Nat) (w : World) (a : Option Addr) (ps : List ch) : Prop := ∃ vs, (vs = [] \/ ∃ g, a = some ⟨g, 0, none⟩ /\ g < w.heap.size /\ (∃ cur, w.heap[g]? = some (.cells cur 105 (0, 0))) /\ ∀ (k : Nat) v, vs[k]? = some v -> w.cell? ⟨g, k, none⟩ = some v) /\ vs.length = ps.length /\ ∀ (i : Nat) p, ps[i]? = some p -> ∃ v, vs[i]? = some v /\ cj B w v p
theorem dz.typed {B lo hi : Nat} {w : World} {a : Option Addr} {ps : List ch} (h : dz B lo hi w a ps) : sh B w a ps := by
 obtain ⟨vs, h1, h2, h3⟩ := h;exact ⟨vs, h1.imp id fun ⟨g, h4, h5, h6, ⟨cur, h8⟩, h7⟩ => ⟨g, h4, (Array.getElem?_eq_some_iff.1 h8).1, ⟨cur, h8⟩, h7⟩, h2, h3⟩
theorem sh.row {B : Nat} {w : World} {a : Option Addr} {ps : List ch} (h : sh B w a ps) (hB : B <= w.heap.size) : fI w.heap.size w a ps := by
 obtain ⟨vs, h1, h2, h3⟩ := h;refine ⟨vs, ?_, h2, fun i p hp => by obtain ⟨v, h4, h5⟩ := h3 i p hp; exact ⟨v, h4, h5.mono hB⟩⟩;rcases h1 with h1 | ⟨g, h4, h6, -, h7⟩
 ·exact .inl h1
 ·exact .inr ⟨g, 0, h4, h6, fun k v hv => by rw [Nat.zero_add]; exact h7 k v hv⟩
structure jT where
  word : ByteArray
  parts : List ch
  least : Int
  most : Int
def kR (B : Nat) (w : World) (cs : List Value) (g : jT) : Prop :=
  ∃ a c, cs = [.string g.word, .slice a g.parts.length c, .int .i64 g.least, .int .i64 g.most] /\ aZ a g.parts.length c /\ fI B w a g.parts
theorem kR.below {B B' : Nat} {w w' : World} {cs : List Value} {g : jT} (h : kR B w cs g) (hb : Below B' w w') (hB : B <= B') : kR B w' cs g := by
 obtain ⟨a, c, h1, h2, h3⟩ := h;exact ⟨a, c, h1, h2, h3.below hb hB⟩
theorem kR.mono {B B' : Nat} {w : World} {cs : List Value} {g : jT} (h : kR B w cs g) (hB : B <= B') : kR B' w cs g := by
 obtain ⟨a, c, h1, h2, h3⟩ := h;exact ⟨a, c, h1, h2, h3.mono hB⟩
def pz (B : Nat) (w : World) (cs : List Value) (g : jT) : Prop :=
  ∃ a c, cs = [.string g.word, .slice a g.parts.length c, .int .i64 g.least, .int .i64 g.most] /\ aZ a g.parts.length c /\ sh B w a g.parts
theorem pz.gr {B : Nat} {w : World} {cs : List Value} {g : jT} (h : pz B w cs g) (hB : B <= w.heap.size) : kR w.heap.size w cs g := by
 obtain ⟨a, c, h1, h2, h3⟩ := h;exact ⟨a, c, h1, h2, h3.row hB⟩
def cJ : Ex := .mk 0 ⟨#[]⟩ cQ [] []
def aC (k : Int) : dS := ⟨k, [], [], cJ, ⟨#[]⟩, [], false, [], [], [], [], [], false⟩
def cR (c : dS) : dS :=
  if c.kind = 1 then { aC c.kind with paths := c.paths, whr := c.whr }
  else if c.kind = 2 then { aC c.kind with e := c.e, var := c.var }
  else if c.kind = 3 then { aC c.kind with whr := c.whr, items := c.items, uniq := c.uniq, order := c.order, skip := c.skip, limit := c.limit }
  else if c.kind = 9 then { aC c.kind with items := c.items, uniq := c.uniq, order := c.order, skip := c.skip, limit := c.limit }
  else if c.kind = 4 \/ c.kind = 5 then { aC c.kind with paths := c.paths }
  else if c.kind = 6 \/ c.kind = 7 then { aC c.kind with sets := c.sets }
  else if c.kind = 8 then { aC c.kind with vars := c.vars, detach := c.detach }
  else aC c.kind
def nI (c : dS) : jT := ⟨⟨#[32, 87, 72, 69, 82, 69, 32]⟩, c.whr.map .ex, 0, 1⟩
def gS (c : dS) (word : ByteArray) (most : Int) : jT := ⟨word, c.paths.map .pt, 1, most⟩
def nJ (c : dS) (word : ByteArray) : jT := ⟨word, c.items.map .it, 1, 1048576⟩
def sj (c : dS) (word : ByteArray) : jT := ⟨word, c.sets.map (fun s => .si s (c.kind == 6)), 1, 1048576⟩
def pA (c : dS) : List jT := [⟨⟨#[32, 79, 82, 68, 69, 82, 32, 66, 89, 32]⟩, c.order.map .so, 0, 1048576⟩, ⟨⟨#[32, 83, 75, 73, 80, 32]⟩, c.skip.map .ex, 0, 1⟩, ⟨⟨#[32, 76, 73, 77, 73, 84, 32]⟩, c.limit.map .ex, 0, 1⟩]
def sl (c : dS) : ByteArray := if c.uniq = true then ⟨#[68, 73, 83, 84, 73, 78, 67, 84, 32]⟩ else ⟨#[]⟩
def dK (c : dS) : Bool := match c.paths with
  | [p] => decide (0 < p.edges.length)
  | _ => false
def aD (c : dS) : List jT :=
  if c.kind = 1 then [gS c ⟨#[77, 65, 84, 67, 72, 32]⟩ 1048576, nI c]
  else if c.kind = 2 then [⟨⟨#[85, 78, 87, 73, 78, 68, 32]⟩, [.ex c.e], 1, 1⟩, ⟨⟨#[32, 65, 83, 32]⟩, [.nm c.var], 1, 1⟩]
  else if c.kind = 3 then nJ c (⟨#[87, 73, 84, 72, 32]⟩ ++ sl c) :: (pA c ++ [nI c])
  else if c.kind = 9 then nJ c (⟨#[82, 69, 84, 85, 82, 78, 32]⟩ ++ sl c) :: pA c
  else if c.kind = 4 then [gS c ⟨#[67, 82, 69, 65, 84, 69, 32]⟩ 1048576]
  else if c.kind = 5 then (if dK c = true then [] else [gS c ⟨#[77, 69, 82, 71, 69, 32]⟩ 1])
  else if c.kind = 6 then [sj c ⟨#[83, 69, 84, 32]⟩]
  else if c.kind = 7 then [sj c ⟨#[82, 69, 77, 79, 86, 69, 32]⟩]
  else if c.kind = 8 then [⟨if c.detach = true then ⟨#[68, 69, 84, 65, 67, 72, 32, 68, 69, 76, 69, 84, 69, 32]⟩ else ⟨#[68, 69, 76, 69, 84, 69, 32]⟩, c.vars.map .nm, 1, 1048576⟩]
  else []
def aU (c : dS) : Bool := if c.kind = 5 /\ dK c = true then false else dy c (cR c)
def jm (cur : List Value) : Nat -> List Value -> List Value
  | _, [] => cur
  | o, v :: r => jm (cur.set o v) (o + 1) r
theorem ae.setCells {b : Nat} {t : TypeId} : ∀ (vs : List Value) (o : Nat) (w : World) (cur : List Value), ae w b cur t -> ae (w.setCells b o vs) b (jm cur o vs) t
  | [], _, _, _, h => h
  | v :: r, o, _, _, h => ae.setCells r (o + 1) _ _ (h.set o v)
theorem ae.setCells_other {b b' : Nat} {t : TypeId} (hne : b' ≠ b) {cur : List Value} : ∀ (vs : List Value) (o : Nat) (w : World), ae w b' cur t -> ae (w.setCells b o vs) b' cur t
  | [], _, _, h => h
  | v :: r, o, _, h => ae.setCells_other hne r (o + 1) _ (h.set_other (a := ⟨b, o, none⟩) hne v)
theorem aN {C b : Nat} {W : World} (hb : C <= b) : ∀ (vs : List Value) (o : Nat) (w : World), Below C W w -> Below C W (w.setCells b o vs)
  | [], _, _, h => h
  | v :: r, o, _, h => aN hb r (o + 1) _ (h.setCell hb v)
theorem iF {b : Nat} : ∀ (vs : List Value) (o : Nat) (w : World), (w.setCells b o vs).heap.size = w.heap.size
  | [], _, _ => rfl
  | v :: r, o, w => by
    show (World.setCells (w.setCell ⟨b, o, none⟩ v) b (o + 1) r).heap.size = _;rw [iF r (o + 1)]; simp
theorem ah {w : World} {b : Nat} {cur : List Value} {t : TypeId} (h : ae w b cur t) (o n : Nat) (hn : o + n <= cur.length) : w.there b o n := by
 intro j hj;refine ⟨?_, h.free _⟩;rw [h.cell (i := o + j) (v := cur[o + j]'(by omega)) (List.getElem?_eq_getElem _)];rfl
theorem setCells_other {b q : Nat} (hq : q ≠ b) : ∀ (vs : List Value) (o : Nat) (w : World), (w.setCells b o vs).heap[q]? = w.heap[q]?
  | [], _, _ => rfl
  | v :: r, o, w => by
    show (World.setCells (w.setCell ⟨b, o, none⟩ v) b (o + 1) r).heap[q]? = _;rw [setCells_other hq r (o + 1)]; exact Below.heap_setCell _ _ _ _ hq
theorem wa {C : Nat} {W0 : World} (u : aq C W0) (hC : C <= W0.heap.size) (zs vals : List Value) (t : TypeId) (hv : jm zs 0 vals = vals) (hl : vals.length <= zs.length) :
    ∃ u2 : aq C W0, (u.w.alloc (.cells zs.toArray t)).setCells u.w.heap.size 0 vals = u2.w /\ Below u.w.heap.size u.w u2.w /\ ae u2.w u.w.heap.size vals t /\ u.w.heap.size < u2.w.heap.size /\ (u.w.alloc (.cells zs.toArray t)).there u.w.heap.size 0 vals.length := by
 have hCu : C <= u.w.heap.size := Nat.le_trans hC u.below.size;have hn : ae (u.w.alloc (.cells zs.toArray t)) u.w.heap.size zs t := ae.new _ _ _;have hb : ae ((u.w.alloc (.cells zs.toArray t)).setCells u.w.heap.size 0 vals) u.w.heap.size vals t := by have := hn.setCells vals 0; rw [hv] at this; exact this
 exact ⟨⟨_, aN hCu vals 0 _ (u.below.alloc hCu _)⟩, rfl, aN (Nat.le_refl _) vals 0 _ ((Below.refl _ _).alloc (Nat.le_refl _) _), hb, hb.lt, ah hn 0 _ (by omega)⟩
theorem gT {C : Nat} {W0 : World} (u : aq C W0) (hC : C <= W0.heap.size) (cells : List Value) (t : TypeId) :
    ∃ u2 : aq C W0, u.w.alloc (.cells cells.toArray t) = u2.w /\ Below u.w.heap.size u.w u2.w /\ ae u2.w u.w.heap.size cells t /\ u.w.heap.size < u2.w.heap.size :=
  ⟨⟨_, u.below.alloc (Nat.le_trans hC u.below.size) _⟩, rfl, (Below.refl _ _).alloc (Nat.le_refl _) _, ae.new _ _ _, (ae.new u.w cells t).lt⟩
theorem kS {C : Nat} {W0 : World} (u : aq C W0) (b : Nat) (hC : C <= b) (j : Nat) (v : Value) :
    ∃ u2 : aq C W0, u.w.setCell ⟨b, j, none⟩ v = u2.w /\ u2.w.heap.size = u.w.heap.size /\ ∀ q, q ≠ b -> u2.w.heap[q]? = u.w.heap[q]? :=
  ⟨⟨_, u.below.setCell hC v⟩, rfl, by show (u.w.setCell _ v).heap.size = _; simp, fun q hq => Below.heap_setCell _ _ _ _ hq⟩
theorem mt {C : Nat} {W0 : World} (u : aq C W0) (b : Nat) (hC : C <= b) (o : Nat) (vs : List Value) :
    ∃ u2 : aq C W0, u.w.setCells b o vs = u2.w /\ u2.w.heap.size = u.w.heap.size /\ ∀ q, q ≠ b -> u2.w.heap[q]? = u.w.heap[q]? :=
  ⟨⟨_, aN hC vs o _ u.below⟩, rfl, iF vs o _, fun q hq => setCells_other hq vs o _⟩
theorem kT {C : Nat} {W0 w2 : World} (u : aq C W0) (hC : C <= W0.heap.size) (hb : Below u.w.heap.size u.w w2) : ∃ v : aq C W0, w2 = v.w := ⟨⟨w2, u.below.trans (hb.mono (Nat.le_trans hC u.below.size))⟩, rfl⟩
theorem ax {α : Type} {R : List Value -> α -> Prop} {s B : Nat} {w : World} {a : Option Addr} : cg R s B w a [] := fun i o h => by simp at h
theorem al : aZ none 0 0 := ⟨⟨Nat.le_refl _, by omega⟩, fun _ => rfl⟩
def iG : List Value := [.int .i64 0, .string ⟨#[]⟩, .int .i64 0, .bool false, .int .i64 0, .string ⟨#[]⟩, .slice none 0 0, .slice none 0 0, .slice none 0 0, .slice none 0 0]
theorem eH (B : Nat) (w : World) : bK B w iG cJ := by
 unfold cJ bK;refine ⟨kI, none, 0, none, 0, rfl, by unfold bJ; omega, fs _ _, al, al, ?_, ?_⟩
 ·exact da.nil
 ·unfold jh; trivial
theorem ef {α : Type} {f : α -> Nat} (hf : ∀ x, 1 <= f x) : ∀ l : List α, l.length <= (l.map f).sum
  | [] => by simp
  | x :: l => by have := ef hf l; have := hf x; simp; omega
theorem tQ {c : dS} (h : aT c <= 1048576) : c.paths.length <= 1048576 /\ c.whr.length <= 1048576 /\ c.items.length <= 1048576 /\ c.order.length <= 1048576 /\ c.skip.length <= 1048576 /\ c.limit.length <= 1048576 /\ c.sets.length <= 1048576 /\ c.vars.length <= 1048576 := by
 have h1 := ef (f := bt) (fun x => by unfold bt; omega) c.paths;have h2 := dI c.whr;have h3 := ef (f := bB) (fun x => by unfold bB; omega) c.items;have h4 := ef (f := bE) (fun x => by unfold bE; omega) c.order;have h5 := dI c.skip;have h6 := dI c.limit;have h7 := ef (f := bv) (fun x => by unfold bv; omega) c.sets;have h8 := eG c.vars;unfold aT at h;omega
theorem cd {P : Program} {ops : Array Oper} {o : Oper} {a : Act} {w : World} {K : Act -> World -> Prop} {Q : Exit -> Act -> World -> Prop} {E : Prop} (hgd : o.guard = none) (ty : TypeId) (x y : Operand) (ho : o.op = .store ty x y)
    (b k : Nat) (cells : Array Value) (hx : a.eval x = .pointer (some ⟨b, k, none⟩)) (hy : a.eval y = .agg cells) (ht : w.there b k cells.size) (hi : (P.info? ty).map (·.size) = some cells.size) (h1 : cells.all (·.oneCell') = true)
    (h : K (a.put o.dst undef) (w.setCells b k cells.toList)) : if Region.wanted o (yielded ops a.tmps) = true then Oper.wp P o a w K Q else E := by
 rw [if_pos (by simp [Region.wanted, hgd])];exact wp_store_mid ty x y ho b k cells hx hy ht hi h1 h
theorem iV : ∀ (css : List (List Value)) (i j : Nat) (cs : List Value) (v : Value), (∀ cs ∈ css, cs.length = 4) -> css[i]? = some cs -> cs[j]? = some v -> css.flatten[i * 4 + j]? = some v
  | [], _, _, _, _, _, h, _ => by simp at h
  | c :: r, 0, j, cs, v, hl, h, hv => by
    simp only [List.getElem?_cons_zero] at h;have h := Option.some.inj h;subst h;rw [List.flatten_cons, Nat.zero_mul, Nat.zero_add, List.getElem?_append_left (List.getElem?_eq_some_iff.1 hv).1];exact hv
  | c :: r, i + 1, j, cs, v, hl, h, hv => by
    have h4 := hl c (List.mem_cons_self ..);rw [List.getElem?_cons_succ] at h;rw [List.flatten_cons, List.getElem?_append_right (by omega), h4, show (i + 1) * 4 + j - 4 = i * 4 + j from by omega];exact iV r i j cs v (fun cs hc => hl cs (List.mem_cons_of_mem _ hc)) h hv
theorem pz.len {B : Nat} {w : World} {cs : List Value} {g : jT} (h : pz B w cs g) : cs.length = 4 := by
 obtain ⟨a, c, rfl, -, -⟩ := h;rfl
inductive bO (B : Nat) (w : World) : List (List Value) -> List jT -> Prop where
  | nil : bO B w [] []
  | cons {cs g css gs} (h : pz B w cs g) (hs : bO B w css gs) : bO B w (cs :: css) (g :: gs)
theorem bO.len4 {B : Nat} {w : World} {css : List (List Value)} {gs : List jT} (h : bO B w css gs) : ∀ cs ∈ css, cs.length = 4 := by
 induction h with
 | nil => intro cs hc; simp at hc
 | cons h hs ih =>
  intro cs hc;rcases List.mem_cons.1 hc with rfl | hc
  ·exact h.len
  ·exact ih cs hc
theorem bO.get {B : Nat} {w : World} {css : List (List Value)} {gs : List jT} (h : bO B w css gs) : ∀ (i : Nat) g, gs[i]? = some g -> ∃ cs, css[i]? = some cs /\ pz B w cs g := by
 induction h with
 | nil => intro i g hg; simp at hg
 | cons h hs ih =>
  intro i g hg;cases i with
  | zero => simp only [List.getElem?_cons_zero, Option.some.injEq] at hg; subst hg; exact ⟨_, rfl, h⟩
  | succ i => rw [List.getElem?_cons_succ] at hg; exact ih i g hg
def gt (B : Nat) (w : World) (a : Option Addr) (gs : List jT) : Prop := ∀ (i : Nat) g, gs[i]? = some g -> ∃ b cs, a = some ⟨b, 0, none⟩ /\ b < w.heap.size /\ (∃ cur, w.heap[b]? = some (.cells cur 103 (0, 0))) /\ (∀ j v, cs[j]? = some v -> w.cell? ⟨b, i * 4 + j, none⟩ = some v) /\ pz B w cs g
theorem gt.nil {B : Nat} {w : World} {a : Option Addr} : gt B w a [] := fun i g h => by simp at h
theorem gt.row {B : Nat} {w : World} {a : Option Addr} {gs : List jT} (h : gt B w a gs) (hB : B <= w.heap.size) : cg (kR w.heap.size w) 4 w.heap.size w a gs := by
 intro i g hg;obtain ⟨b, cs, h1, h2, -, h4, h5⟩ := h i g hg;exact ⟨b, 0, cs, h1, h2, h5.len, fun j v hv => by rw [Nat.zero_add]; exact h4 j v hv, h5.gr hB⟩
theorem fA {B : Nat} {w : World} {b : Nat} {cells : List Value} {css : List (List Value)} {gs : List jT} (hb : ae w b cells 103) (hc : cells = css.flatten) (h : bO B w css gs) : gt B w (some ⟨b, 0, none⟩) gs := by
 intro i g hg;obtain ⟨cs, h1, h2⟩ := h.get i g hg;refine ⟨b, cs, rfl, hb.lt, ⟨_, hb⟩, fun j v hv => hb.cell ?_, h2⟩;rw [hc];exact iV css i j cs v h.len4 h1 hv
theorem Tryz.infoGroup : (Tryz.prog.info? 103).map (fun i => (i.zero, i.size, i.bytes)) = some (some (.agg #[.string ⟨#[]⟩, .slice none 0 0, .int .i64 0, .int .i64 0]), 4, 56) := by kernel_rfl
theorem mu {w : World} {base n size : Nat} {e : TypeId} {v : Value} {xs : List Value} (h : w.ownsRow base e size v n xs) (hn : 0 < n) : ∃ g cap, v = .slice (some ⟨g, 0, none⟩) n cap /\ aZ (some ⟨g, 0, none⟩) n cap /\ base <= g /\ g < w.heap.size := by
 obtain ⟨h1, h2⟩ := h;rcases h2 with ⟨rfl, h3⟩ | ⟨g, cap, cur, rfl, hb, hh, hn', hm, hs, ht⟩
 ·omega
 ·exact ⟨g, cap, rfl, ⟨⟨hn', by unfold maxLen at hm; omega⟩, fun e => by cases e⟩, hb, (Array.getElem?_eq_some_iff.1 hh).1⟩
theorem cy {w w' : World} {base n size : Nat} {e : TypeId} {v : Value} {xs : List Value} (h : w.ownsRow base e size v n xs) (hk : ∀ q, base <= q -> q < w.heap.size -> w'.heap[q]? = w.heap[q]?) : w'.ownsRow base e size v n xs := by
 obtain ⟨h1, h2⟩ := h;refine ⟨h1, h2.imp id ?_⟩;rintro ⟨g, cap, cur, hv, hb, hh, r⟩;exact ⟨g, cap, cur, hv, hb, (hk g hb (Array.getElem?_eq_some_iff.1 hh).1).trans hh, r⟩
theorem pB {base n size : Nat} {e : TypeId} {w : World} {b : Nat} {xs : List Value} (h : ae w b xs e) (hb : base <= b) (hl : xs.length = n * size) (hn : n <= maxLen) : w.ownsRow base e size (.slice (some ⟨b, 0, none⟩) n n) n xs := by
 refine ⟨hl, .inr ⟨b, n, xs.toArray, rfl, hb, h, Nat.le_refl _, hn, by simp [hl], ?_⟩⟩;rw [<- hl]; simp
theorem mw {w : World} {base n size g cap : Nat} {e : TypeId} {xs : List Value} (h : w.ownsRow base e size (.slice (some ⟨g, 0, none⟩) n cap) n xs) {k : Nat} {v : Value} (hv : xs[k]? = some v) : w.cell? ⟨g, k, none⟩ = some v := by
 obtain ⟨h1, h2⟩ := h;rcases h2 with ⟨h, h3⟩ | ⟨g', cap', cur, he, hb, hh, hn, hm, hs, ht⟩
 ·cases h
 ·injection he with h5
  injection h5 with h5
  injection h5 with h5
  subst h5;rw [<- ht] at hv;have hk : k < n * size := by have := (List.getElem?_eq_some_iff.1 hv).1; rw [List.length_take] at this; omega
  rw [List.getElem?_take_of_lt hk] at hv;rw [Lib.cell_of_heap hh];simpa using hv
theorem wg {w : World} {base n size g cap : Nat} {e : TypeId} {xs : List Value} (h : w.ownsRow base e size (.slice (some ⟨g, 0, none⟩) n cap) n xs) (k : Nat) (v : Value) : (w.setCell ⟨g, k, none⟩ v).ownsRow base e size (.slice (some ⟨g, 0, none⟩) n cap) n (xs.set k v) := by
 obtain ⟨h1, h2⟩ := h;refine ⟨by simpa using h1, ?_⟩;rcases h2 with ⟨h2, _⟩ | ⟨g', cap', cur, e1, e2, e3, e4, e5, e6, e7⟩
 ·cases h2
 ·injection e1 with e1 _ ec
  injection e1 with e1
  injection e1 with e1
  subst e1 ec;have hb : ae w g cur.toList e := by unfold ae; simpa using e3
  have hs := hb.set k v;refine .inr ⟨g, cap, cur.setIfInBounds k v, rfl, e2, ?_, e4, e5, by simpa using e6, ?_⟩
  ·unfold ae at hs;rw [hs];congr 2;apply Array.ext';simp
  ·rw [Array.toList_setIfInBounds, List.take_set, e7]
theorem wh {B base n g cap : Nat} {w : World} {cells : List Value} {css : List (List Value)} {gs : List jT} (h : w.ownsRow base 103 4 (.slice (some ⟨g, 0, none⟩) n cap) n cells) (hc : cells = css.flatten) (ha : bO B w css gs) : gt B w (some ⟨g, 0, none⟩) gs := by
 have ht : ∃ cur, w.heap[g]? = some (.cells cur 103 (0, 0)) := by
  obtain ⟨h1, h2⟩ := h;rcases h2 with ⟨h, h3⟩ | ⟨g', cap', cur, he, hb, hh, hn, hm, hs, ht⟩
  ·cases h
  ·injection he with h5
   injection h5 with h5
   injection h5 with h5
   subst h5;exact ⟨cur, hh⟩
 intro i x hx;obtain ⟨cs, h1, h2⟩ := ha.get i x hx;obtain ⟨cur, hcur⟩ := ht;refine ⟨g, cs, rfl, (Array.getElem?_eq_some_iff.1 hcur).1, ⟨cur, hcur⟩, fun j v hv => mw h ?_, h2⟩;rw [hc];exact iV css i j cs v ha.len4 h1 hv
theorem bq {w : World} {b : Nat} {cs : List Value} {t : TypeId} (h : ae w b cs t) : w.rangeAt b 0 cs := fun j v hv => by rw [Nat.zero_add]; exact h.cell hv
theorem bZ {C : Nat} {W0 : World} (u : aq C W0) {b : Nat} {cs : List Value} (h : W0.rangeAt b 0 cs) (hb : b < C) : u.w.rangeAt b 0 cs := fun j v hv => by rw [u.below.cell (by show b < C; exact hb)]; exact h j v hv
structure af (p : Prop) : Prop where
  out : p
theorem jn {B : Nat} {w : World} {b hi : Nat} {v : Value} {p : ch} (h : ae w b [v] 105) (hh : b < hi) (hp : cj B w v p) : dz B b hi w (some ⟨b, 0, none⟩) [p] := by
 refine ⟨[v], .inr ⟨b, rfl, Nat.le_refl _, hh, ⟨_, h⟩, fun k x hx => h.cell hx⟩, rfl, fun i q hq => ?_⟩;cases i with
 | zero => simp only [List.getElem?_cons_zero, Option.some.injEq] at hq; subst hq; exact ⟨v, rfl, hp⟩
 | succ i => simp at hq
theorem nK {b : Nat} : aZ (some ⟨b, 0, none⟩) 1 1 := ⟨⟨Nat.le_refl _, by omega⟩, fun h => by cases h⟩
theorem tR {w : World} {base n size g cap k : Nat} {e : TypeId} {xs : List Value} (h : w.ownsRow base e size (.slice (some ⟨g, 0, none⟩) n cap) n xs) : w.frozen? ⟨g, k, none⟩ = false := by
 obtain ⟨h1, h2⟩ := h;rcases h2 with ⟨h, h3⟩ | ⟨g', cap', cur, he, hb, hh, hn, hm, hs, ht⟩
 ·cases h
 ·injection he with h5
  injection h5 with h5
  injection h5 with h5
  subst h5;have hb : ae w g cur.toList e := by unfold ae; simpa using hh
  exact hb.free k
theorem sm {w : World} {base n size g cap : Nat} {e : TypeId} {xs : List Value} (h : w.ownsRow base e size (.slice (some ⟨g, 0, none⟩) n cap) n xs) : aZ (some ⟨g, 0, none⟩) n cap /\ base <= g := by
 obtain ⟨h1, h2⟩ := h;rcases h2 with ⟨h, h3⟩ | ⟨g', cap', cur, he, hb, hh, hn, hm, hs, ht⟩
 ·cases h
 ·injection he with h5 _ h6
  injection h5 with h5
  injection h5 with h5
  subst h5 h6;exact ⟨⟨⟨hn, by unfold maxLen at hm; omega⟩, fun e => by cases e⟩, hb⟩
theorem dL {B lo hi n c : Nat} {w : World} {a : Option Addr} {ps : List ch} (h : dz B lo hi w a ps) (hn : ps.length = n) (hs : aZ a n c) (word : ByteArray) (least most : Int) :
    pz B w [.string word, .slice a n c, .int .i64 least, .int .i64 most] ⟨word, ps, least, most⟩ := by
 subst hn;exact ⟨a, c, rfl, hs, h.typed⟩
theorem Aw {C : Nat} {W0 : World} {b : Nat} {x0 x1 x2 x3 x4 x5 x6 x7 x8 x9 x10 x11 x12 x13 x14 x15 x16 x17 x18 x19 x20 x21 : Value} (h : ∀ (u : aq C W0) (i : Nat) v, [x0, x1, x2, x3, x4, x5, x6, x7, x8, x9, x10, x11, x12, x13, x14, x15, x16, x17, x18, x19, x20, x21][i]? = some v -> u.w.cell? ⟨b, i, none⟩ = some v) :
    (∀ u : aq C W0, u.w.cell? ⟨b, 0, none⟩ = some x0) /\ (∀ u : aq C W0, u.w.cell? ⟨b, 1, none⟩ = some x1) /\ (∀ u : aq C W0, u.w.cell? ⟨b, 2, none⟩ = some x2) /\ (∀ u : aq C W0, u.w.cell? ⟨b, 3, none⟩ = some x3) /\ (∀ u : aq C W0, u.w.cell? ⟨b, 4, none⟩ = some x4) /\ (∀ u : aq C W0, u.w.cell? ⟨b, 5, none⟩ = some x5) /\ (∀ u : aq C W0, u.w.cell? ⟨b, 6, none⟩ = some x6) /\ (∀ u : aq C W0, u.w.cell? ⟨b, 7, none⟩ = some x7) /\ (∀ u : aq C W0, u.w.cell? ⟨b, 8, none⟩ = some x8) /\ (∀ u : aq C W0, u.w.cell? ⟨b, 9, none⟩ = some x9) /\ (∀ u : aq C W0, u.w.cell? ⟨b, 10, none⟩ = some x10) /\ (∀ u : aq C W0, u.w.cell? ⟨b, 11, none⟩ = some x11) /\ (∀ u : aq C W0, u.w.cell? ⟨b, 12, none⟩ = some x12) /\ (∀ u : aq C W0, u.w.cell? ⟨b, 13, none⟩ = some x13) /\ (∀ u : aq C W0, u.w.cell? ⟨b, 14, none⟩ = some x14) /\ (∀ u : aq C W0, u.w.cell? ⟨b, 15, none⟩ = some x15) /\ (∀ u : aq C W0, u.w.cell? ⟨b, 16, none⟩ = some x16) /\ (∀ u : aq C W0, u.w.cell? ⟨b, 17, none⟩ = some x17) /\ (∀ u : aq C W0, u.w.cell? ⟨b, 18, none⟩ = some x18) /\ (∀ u : aq C W0, u.w.cell? ⟨b, 19, none⟩ = some x19) /\ (∀ u : aq C W0, u.w.cell? ⟨b, 20, none⟩ = some x20) /\ (∀ u : aq C W0, u.w.cell? ⟨b, 21, none⟩ = some x21) :=
  ⟨fun u => h u 0 _ rfl, fun u => h u 1 _ rfl, fun u => h u 2 _ rfl, fun u => h u 3 _ rfl, fun u => h u 4 _ rfl, fun u => h u 5 _ rfl, fun u => h u 6 _ rfl, fun u => h u 7 _ rfl, fun u => h u 8 _ rfl, fun u => h u 9 _ rfl, fun u => h u 10 _ rfl, fun u => h u 11 _ rfl, fun u => h u 12 _ rfl, fun u => h u 13 _ rfl, fun u => h u 14 _ rfl, fun u => h u 15 _ rfl, fun u => h u 16 _ rfl, fun u => h u 17 _ rfl, fun u => h u 18 _ rfl, fun u => h u 19 _ rfl, fun u => h u 20 _ rfl, fun u => h u 21 _ rfl⟩
theorem aP (D : Nat) {W : World} {b j : Nat} {x : Value} (h : W.cell? ⟨b, j, none⟩ = some x) (hb : b < D) : ∀ v : aq D W, v.w.cell? ⟨b, j, none⟩ = some x := fun v => v.cell hb h
theorem wj (D : Nat) {W : World} {b : Nat} {x0 x1 x2 x3 : Value} {t : TypeId} (h : ae W b [x0, x1, x2, x3] t) (hb : b < D) :
    (∀ v : aq D W, v.w.cell? ⟨b, 0, none⟩ = some x0) /\ (∀ v : aq D W, v.w.cell? ⟨b, 1, none⟩ = some x1) /\ (∀ v : aq D W, v.w.cell? ⟨b, 2, none⟩ = some x2) /\ (∀ v : aq D W, v.w.cell? ⟨b, 3, none⟩ = some x3) :=
  ⟨aP D (h.cell (i := 0) rfl) hb, aP D (h.cell (i := 1) rfl) hb, aP D (h.cell (i := 2) rfl) hb, aP D (h.cell (i := 3) rfl) hb⟩
theorem cZ {C : Nat} {W0 : World} (u : aq C W0) (hC : C <= W0.heap.size) (cells : List Value) (t : TypeId) :
    ∃ u2 : aq C W0, Hid (u.w.alloc (.cells cells.toArray t) = u2.w) /\ Hid (Below u.w.heap.size u.w u2.w) /\ Hid (ae u2.w u.w.heap.size cells t) /\ Hid (u.w.heap.size < u2.w.heap.size) := by
 obtain ⟨u2, h1, h2, h3, h4⟩ := gT u hC cells t;exact ⟨u2, aa h1, aa h2, aa h3, aa h4⟩
theorem Sq889613 {P : Prop} (h : P := by
 intro vs
 induction vs with
 | nil => intro cur o h; simp only [jm, List.append_nil]; rw [List.take_of_length_le (by simp at h; omega)]
 | cons v vs ih =>
  intro cur o h;simp only [List.length_cons] at h;rw [jm, ih _ _ (by rw [List.length_set]; omega), List.take_set, List.take_add_one, List.getElem?_eq_getElem (by omega)];simp only [Option.toList_some];rw [List.set_append_right _ _ (by rw [List.length_take]; omega), List.length_take, Nat.min_eq_left (by omega)];simp) : P := h
theorem jC : ∀ (vs cur : List Value) (o : Nat), o + vs.length = cur.length -> jm cur o vs = cur.take o ++ vs := Sq889613
theorem iW {C : Nat} {W0 : World} (u : aq C W0) (hC : C <= W0.heap.size) (zs vals : List Value) (t : TypeId) (hl : vals.length = zs.length := by rfl) :
    ∃ u2 : aq C W0, Hid ((u.w.alloc (.cells zs.toArray t)).setCells u.w.heap.size 0 vals.toArray.toList = u2.w) /\ Hid (Below u.w.heap.size u.w u2.w) /\ Hid (ae u2.w u.w.heap.size vals t) /\ Hid (u.w.heap.size < u2.w.heap.size) /\ Hid ((u.w.alloc (.cells zs.toArray t)).there u.w.heap.size 0 vals.length) := by
 obtain ⟨u2, h1, h2, h3, h4, h5⟩ := wa u hC zs vals t (by rw [jC _ _ _ (by omega)]; rfl) (by omega);exact ⟨u2, aa h1, aa h2, aa h3, aa h4, aa h5⟩
theorem yG {C : Nat} {W0 : World} (u : aq C W0) : ∃ v : aq C W0, Hid (u.w.drew = v.w) /\ Hid (Below u.w.heap.size u.w v.w) /\ Hid (u.w.heap.size <= v.w.heap.size) :=
  ⟨⟨_, u.below.drew⟩, aa rfl, aa (Below.refl _ _).drew, aa (Nat.le_refl _)⟩
theorem dW (D : Nat) (W : World) {b : Nat} {cells : List Value} {t : TypeId} (h : Hid (ae W b cells t)) : ∃ v : aq D W, Hid (W.drew = v.w) /\ Hid (ae v.w b cells t) /\ Hid (W.heap.size <= v.w.heap.size) :=
  ⟨⟨_, (Below.refl _ _).drew⟩, aa rfl, aa h.out.drew, aa (Nat.le_refl _)⟩
theorem sr {C : Nat} {W0 : World} (u : aq C W0) {b : Nat} {cells : List Value} {t : TypeId} (h : Hid (ae u.w b cells t)) : ∃ v : aq C W0, Hid (u.w.drew = v.w) /\ Hid (ae v.w b cells t) /\ Hid (v.w.heap.size = u.w.heap.size) :=
  ⟨⟨_, u.below.drew⟩, aa rfl, aa h.out.drew, aa rfl⟩
theorem pC {w w' : World} {base n size : Nat} {e : TypeId} {v : Value} {xs : List Value} (h : w.ownsRow base e size v n xs) (he : w.drew = w') : w'.ownsRow base e size v n xs := by subst he; exact h
theorem bM {C : Nat} {W0 : World} (u : aq C W0) {b : Nat} {cells : List Value} {t : TypeId} (hb : Hid (ae u.w b cells t)) (hC : C <= b) (j : Nat) {old : Value} (v : Value) (hj : cells[j]? = some old := by rfl) :
    ∃ u2 : aq C W0, Hid (u.w.setCell ⟨b, j, none⟩ v = u2.w) /\ Hid (u2.w.heap.size = u.w.heap.size) /\ Hid (∀ q, q ≠ b -> u2.w.heap[q]? = u.w.heap[q]?) /\ Hid (ae u2.w b (cells.set j v) t) /\ u.w.cell? ⟨b, j, none⟩ = some old /\ u.w.frozen? ⟨b, j, none⟩ = false := by
 obtain ⟨u2, h1, h2, h3⟩ := kS u b hC j v;exact ⟨u2, aa h1, aa h2, aa h3, aa (by rw [<- h1]; exact hb.out.set j v), hb.out.cell hj, hb.out.free j⟩
theorem cD {a b c : World} (h : Below a.heap.size a b) (k : Below b.heap.size b c) : Below a.heap.size a c := h.trans (k.mono h.size)
theorem dz.moved {B lo hi b j : Nat} {w w' : World} {a : Option Addr} {ps : List ch} {v : Value} (h : dz B lo hi w a ps) (he : w.setCell ⟨b, j, none⟩ v = w') (hB : B <= b) (hb : b < lo \/ hi <= b) : dz B lo hi w' a ps := he ▸ h.store hB hb j v
theorem fJ {B b : Nat} {w : World} {cs ds : List Value} {c : dS} (h : df B w cs c) (h2 : w.rangeAt b 0 ds) (he : ds = cs := by rfl) : w.rangeAt b 0 cs := he ▸ h2
theorem fK {C B : Nat} {W0 : World} {P : Program} {f : FuncId} {args : Array Value} {n : Nat} {ps : List ch} (hC : C <= W0.heap.size)
    (h : ∀ u : aq C W0, Calls P f args u.w fun e w' => ∃ a c, e = .returned (.slice a n c) /\ aZ a n c /\ bL B u.w.heap.size w' a ps /\ Below u.w.heap.size u.w w') :
    Hid (∀ u : aq C W0, Calls P f args u.w fun e w' => ∃ a c, ∃ v : aq C W0, e = .returned (.slice a n c) /\ w' = v.w /\ Hid (aZ a n c) /\ Hid (dz B u.w.heap.size v.w.heap.size v.w a ps) /\ Hid (Below u.w.heap.size u.w v.w) /\ Hid (u.w.heap.size <= v.w.heap.size)) :=
  aa fun u => (h u).mono fun e w' ⟨a, c, h1, h2, h3, h4⟩ => ⟨a, c, ⟨w', u.below.trans (h4.mono (Nat.le_trans hC u.below.size))⟩, h1, rfl, aa h2, aa h3.inside, aa h4, aa h4.size⟩
end Go.Proofs.YteljlahcdipilaaGreat

/- Parts Q80, X1, X2, X3, X4, X5, X6, X8, X9 of this seat (pruned, scripts that are alike kept once as default arguments: q1, q2, ..). Conditions: each says its own. -/
import Derived.Test.YteljlahcdipilaaGreatG3
import Derived.Test.YteljlahcdipilaaGreatG4
import Derived.Test.YteljlahcdipilaaGreatG13
set_option linter.unusedSimpArgs false
set_option linter.unusedVariables false
set_option maxRecDepth 1000000
set_option maxHeartbeats 64000000
namespace Go.Proofs.YteljlahcdipilaaGreat
open Go.RowKit
/-! A text cut behind a token: what is read ahead of the cut is the same. -/
/-! A scan that tells no fault, opened at its first token. -/
theorem iZ : ∀ (f : Nat) (r : List UInt8) (p : Nat) (acc l' : List (am × Nat)), db f r p acc = .ok l' -> ∃ l, l' = acc ++ l /\ ((r.drop (aG aI r) = [] /\ l = [(⟨6, [], 0⟩, p + aG aI r)]) \/
    ∃ f' t n d, f = f' + 1 /\ r.drop (aG aI r) ≠ [] /\ cu (r.drop (aG aI r)) = .tok t n /\ l = (t, p + aG aI r) :: d /\ d ≠ [] /\ db f' ((r.drop (aG aI r)).drop n) (p + aG aI r + n) (acc ++ [(t, p + aG aI r)]) = .ok ((acc ++ [(t, p + aG aI r)]) ++ d))
  | 0, r, p, acc, l', h => by rw [db] at h; cases h
  | f + 1, r, p, acc, l', h => by
    rw [db] at h
    by_cases hd : r.drop (aG aI r) = []
    · rw [if_pos hd] at h
      split at h
      · cases h
      · injection h with h
        exact ⟨_, h.symm, .inl ⟨hd, rfl⟩⟩
    · rw [if_neg hd] at h
      cases ho : cu (r.drop (aG aI r)) with
      | bad e => rw [ho] at h; cases h
      | tok t n =>
        rw [ho] at h;dsimp only at h
        split at h
        · cases h
        · obtain ⟨d, rfl, hd'⟩ := iZ f _ _ _ _ h
          refine ⟨(t, p + aG aI r) :: d, by simp, .inr ⟨f, t, n, d, rfl, hd, rfl, rfl, ?_, h⟩⟩;rcases hd' with ⟨_, rfl⟩ | ⟨_, _, _, _, _, _, _, rfl, _⟩ <;> exact List.cons_ne_nil _ _
theorem jV : ∀ (f : Nat) (r : List UInt8) (p : Nat) (acc l : List (am × Nat)), db f r p acc = .ok (acc ++ l) ->
    (∀ (i : Nat) (y : am × Nat), l[i]? = some y -> p <= y.2 /\ y.2 <= p + r.length /\ (y.1.k = 6 ↔ i + 1 = l.length) /\ (i + 1 = l.length -> y.2 = p + r.length)) /\ (∀ (i j : Nat) (y z : am × Nat), i < j -> l[i]? = some y -> l[j]? = some z -> y.2 < z.2)
  | f, r, p, acc, l, h => by
    obtain ⟨l0, e, ho⟩ := iZ f r p acc _ h;obtain rfl := List.append_cancel_left e;have hle := cU aI r;rcases ho with ⟨hd, rfl⟩ | ⟨f', t, n, d, rfl, hd, ht, rfl, hne, h'⟩
    · have hj : aG aI r = r.length := by have := congrArg List.length hd; rw [List.length_drop] at this; simp at this; omega
      refine ⟨fun i y hy => ?_, fun i j y z hij _ hz => ?_⟩
      · cases i with
        | zero => obtain rfl := Option.some.inj hy; exact ⟨by omega, by omega, by simp, fun _ => by omega⟩
        | succ i => simp at hy
      · cases j with
        | zero => omega
        | succ j => simp at hz
    · have hsz := eA hd ht
      rw [List.length_drop] at hsz;have hk := tw ht;obtain ⟨g1, g2⟩ := jV f' _ _ _ _ h';rw [List.length_drop, List.length_drop] at g1;have hdl : 0 < d.length := List.length_pos_iff.2 hne;refine ⟨fun i y hy => ?_, fun i j y z hij hy hz => ?_⟩
      · cases i with
        | zero => obtain rfl := Option.some.inj hy; exact ⟨by omega, by omega, by simp only [List.length_cons]; omega, fun e => by simp only [List.length_cons] at e; omega⟩
        | succ i =>
          obtain ⟨q1, q2, q3, q4⟩ := g1 i y hy;exact ⟨by omega, by omega, by simp only [List.length_cons]; omega, fun e => by simp only [List.length_cons] at e; have := q4 (by omega); omega⟩
      · cases j with
        | zero => omega
        | succ j =>
          cases i with
          | zero => obtain rfl := Option.some.inj hy; have := (g1 j z hz).1; show p + aG aI r < z.2; omega
          | succ i => exact g2 i j y z (by omega) hy hz
theorem pZ {s : List UInt8} {L : List (am × Nat)} (h : cv s = .ok L) : (∀ (i : Nat) (y : am × Nat), L[i]? = some y -> y.2 <= s.length /\ (y.1.k = 6 ↔ i + 1 = L.length) /\ (i + 1 = L.length -> y.2 = s.length)) /\ (∀ (i j : Nat) (y z : am × Nat), i < j -> L[i]? = some y -> L[j]? = some z -> y.2 < z.2) := by
 unfold cv at h
 split at h
 ·cases h
 obtain ⟨g1, g2⟩ := jV _ s 0 [] L h;exact ⟨fun i y hy => by obtain ⟨a, b, c, d⟩ := g1 i y hy; exact ⟨by omega, c, fun e => by have := d e; omega⟩, g2⟩
end Go.Proofs.YteljlahcdipilaaGreat
namespace Go.Proofs.YteljlahcdipilaaGreat
open Go.RowKit Go.Deep Go.ChangeShapes Go.WideShapes
def aZ (a : Option Addr) (n c : Nat) : Prop := (n <= c /\ c <= 9223372036854775807) /\ (a = none -> c = 0)
def cg {α : Type} (R : List Value -> α -> Prop) (size B : Nat) (w : World) (a : Option Addr) (l : List α) : Prop :=
  ∀ (i : Nat) (o : α), l[i]? = some o -> ∃ b off cs, a = some ⟨b, off, none⟩ /\ b < B /\ cs.length = size /\ (∀ j v, cs[j]? = some v -> w.cell? ⟨b, off + (i * size + j), none⟩ = some v) /\ R cs o
theorem cg.below {α : Type} {R R' : List Value -> α -> Prop} {size B B' : Nat} {w w' : World} {a : Option Addr} {l : List α} (h : cg R size B w a l) (hb : Below B' w w') (hB : B <= B') (hR : ∀ cs x, R cs x -> R' cs x) : cg R' size B w' a l := by
 intro i o ho;obtain ⟨b, off, cs, h1, h2, h3, h4, h5⟩ := h i o ho;exact ⟨b, off, cs, h1, h2, h3, fun j v hv => by rw [hb.cell (by show b < B'; omega)]; exact h4 j v hv, hR _ _ h5⟩
theorem cg.mono {α : Type} {R R' : List Value -> α -> Prop} {size B B' : Nat} {w : World} {a : Option Addr} {l : List α} (h : cg R size B w a l) (hB : B <= B') (hR : ∀ cs x, R cs x -> R' cs x) : cg R' size B' w a l := by
 intro i o ho;obtain ⟨b, off, cs, h1, h2, h3, h4, h5⟩ := h i o ho;exact ⟨b, off, cs, h1, by omega, h3, h4, hR _ _ h5⟩
def ju (ks : List ByteArray) : Nat := (ks.map fun k => k.size + 1).sum
inductive Ex where
  | mk (op : Int) (nm : ByteArray) (val : Vt) (ns : List ByteArray) (args : List Ex)
mutual
def bK (B : Nat) (w : World) : List Value -> Ex -> Prop
  | cs, .mk op nm v ns az => ∃ vc na nc xa xc, cs = .int .i64 op :: .string nm :: (vc ++ [.slice na ns.length nc, .slice xa az.length xc]) /\ bJ op /\ dR B w vc v /\ aZ na ns.length nc /\ aZ xa az.length xc /\ co B w na ns /\ jh B w xa 0 az
def jh (B : Nat) (w : World) : Option Addr -> Nat -> List Ex -> Prop
  | _, _, [] => True
  | a, n, t :: ts => (∃ b off cs, a = some ⟨b, off, none⟩ /\ b < B /\ cs.length = 10 /\ (∀ j v, cs[j]? = some v -> w.cell? ⟨b, off + (n * 10 + j), none⟩ = some v) /\ bK B w cs t) /\ jh B w a (n + 1) ts
end
mutual
def ee : Ex -> Nat
  | .mk _ nm v ns az => 1 + nm.size + uD v + ju ns + dm az
def dm : List Ex -> Nat
  | [] => 0
  | t :: ts => ee t + dm ts
end
theorem yp (t : Ex) : 1 <= ee t := by cases t; unfold ee; omega
theorem fy (l : List Ex) : dm l = (l.map ee).sum := by
 induction l with
 | nil => simp [dm]
 | cons t ts ih => simp [dm, ih]
theorem dI (l : List Ex) : l.length <= dm l := by
 induction l with
 | nil => simp
 | cons t ts ih => have := yp t; simp only [dm, List.length_cons]; omega
theorem kH {l : List Ex} {i : Nat} {t : Ex} (h : l[i]? = some t) : ee t <= dm l := by rw [fy]; exact kf ee h
theorem Ex.down {p : Ex -> Prop} (h : ∀ op nm v ns az, (∀ (j : Nat) t, az[j]? = some t -> p t) -> p (.mk op nm v ns az)) (t : Ex) : p t := by
 induction hn : ee t using Nat.strongRecOn generalizing t with
 | _ n ih =>
  obtain ⟨op, nm, v, ns, az⟩ := t;refine h op nm v ns az fun j t ht => ih (ee t) ?_ t rfl
  have := kH ht;rw [<- hn];simp only [ee];omega
theorem jh.row {B : Nat} {w : World} {a : Option Addr} {l : List Ex} : ∀ {n : Nat}, jh B w a n l -> ∀ (i : Nat) (t : Ex), l[i]? = some t ->
    ∃ b off cs, a = some ⟨b, off, none⟩ /\ b < B /\ cs.length = 10 /\ (∀ j v, cs[j]? = some v -> w.cell? ⟨b, off + ((n + i) * 10 + j), none⟩ = some v) /\ bK B w cs t := by
 induction l with
 | nil => intro n _ i t h; simp at h
 | cons u us ih =>
  intro n h i t ht;unfold jh at h;cases i with
  | zero => simp at ht; subst ht; exact h.1
  | succ i =>
   have := ih h.2 i t (by simpa using ht);rwa [show n + 1 + i = n + (i + 1) from by omega] at this
theorem jh.mk {B : Nat} {w : World} {a : Option Addr} {l : List Ex} : ∀ {n : Nat}, (∀ (i : Nat) (t : Ex), l[i]? = some t ->
    ∃ b off cs, a = some ⟨b, off, none⟩ /\ b < B /\ cs.length = 10 /\ (∀ j v, cs[j]? = some v -> w.cell? ⟨b, off + ((n + i) * 10 + j), none⟩ = some v) /\ bK B w cs t) -> jh B w a n l := by
 induction l with
 | nil => intro n _; simp [jh]
 | cons u us ih =>
  intro n h;unfold jh;exact ⟨h 0 u rfl, ih fun i t ht => by
   have := h (i + 1) t (by simpa using ht);rwa [show n + (i + 1) = n + 1 + i from by omega] at this⟩
theorem gQ {B : Nat} {w : World} {a : Option Addr} {l : List Ex} : jh B w a 0 l ↔ cg (bK B w) 10 B w a l :=
  ⟨fun h i t ht => by have := h.row i t ht; rwa [Nat.zero_add] at this, fun h => jh.mk fun i t ht => by rw [Nat.zero_add]; exact h i t ht⟩
theorem bK.below {B B' : Nat} {w w' : World} (hb : Below B' w w') (hB : B <= B') (t : Ex) : ∀ cs, bK B w cs t -> bK B w' cs t := by
 refine t.down (p := fun t => ∀ cs, bK B w cs t -> bK B w' cs t) fun op nm v ns az ih cs h => ?_
 unfold bK at h ⊢;obtain ⟨vc, na, nc, xa, xc, h1, h2, h3, h4, h5, h6, h7⟩ := h;refine ⟨vc, na, nc, xa, xc, h1, h2, dR.below hb hB v _ h3, h4, h5, h6.below hb hB, jh.mk fun j t ht => ?_⟩;obtain ⟨b, off, cs', g1, g2, g3, g4, g5⟩ := h7.row j t ht;exact ⟨b, off, cs', g1, g2, g3, fun q v hv => by rw [hb.cell (by show b < B'; omega)]; exact g4 q v hv, ih j t ht cs' g5⟩
theorem bK.mono {B B' : Nat} {w : World} (hB : B <= B') (t : Ex) : ∀ cs, bK B w cs t -> bK B' w cs t := by
 refine t.down (p := fun t => ∀ cs, bK B w cs t -> bK B' w cs t) fun op nm v ns az ih cs h => ?_
 unfold bK at h ⊢;obtain ⟨vc, na, nc, xa, xc, h1, h2, h3, h4, h5, h6, h7⟩ := h;refine ⟨vc, na, nc, xa, xc, h1, h2, dR.mono hB v _ h3, h4, h5, h6.mono hB, jh.mk fun j t ht => ?_⟩;obtain ⟨b, off, cs', g1, g2, g3, g4, g5⟩ := h7.row j t ht;exact ⟨b, off, cs', g1, by omega, g3, g4, ih j t ht cs' g5⟩
theorem bK.cells {B : Nat} {w : World} {cs : List Value} {op : Int} {nm : ByteArray} {v : Vt} {ns : List ByteArray} {az : List Ex} (h : bK B w cs (.mk op nm v ns az)) :
    ∃ k b i s l ks la lc ka kc na nc xa xc, v = .mk k b i s l ks /\ cs = [.int .i64 op, .string nm, .int .i64 k, .bool b, .int .i64 i, .string s, .slice la l.length lc, .slice ka ks.length kc, .slice na ns.length nc, .slice xa az.length xc] /\ bJ op /\
      dR B w [.int .i64 k, .bool b, .int .i64 i, .string s, .slice la l.length lc, .slice ka ks.length kc] v /\ aZ na ns.length nc /\ aZ xa az.length xc /\ co B w na ns /\ cg (bK B w) 10 B w xa az := by
 obtain ⟨k, b, i, s, l, ks⟩ := v;unfold bK at h;obtain ⟨vc, na, nc, xa, xc, h1, h2, h3, h4, h5, h6, h7⟩ := h;have h9 := h3;unfold dR at h9;obtain ⟨la, lc, ka, kc, rfl, -⟩ := h9;exact ⟨k, b, i, s, l, ks, la, lc, ka, kc, na, nc, xa, xc, rfl, h1, h2, h3, h4, h5, h6, gQ.1 h7⟩
structure oc where
  var : ByteArray
  labels : List ByteArray
  keys : List ByteArray
  vals : List Ex
def j5 (B : Nat) (w : World) (cs : List Value) (o : oc) : Prop :=
  ∃ a_labels c_labels a_keys c_keys a_vals c_vals, cs = [.string o.var, .slice a_labels o.labels.length c_labels, .slice a_keys o.keys.length c_keys, .slice a_vals o.vals.length c_vals] /\ aZ a_labels o.labels.length c_labels /\ co B w a_labels o.labels /\ aZ a_keys o.keys.length c_keys /\ co B w a_keys o.keys /\ aZ a_vals o.vals.length c_vals /\ cg (bK B w) 10 B w a_vals o.vals
theorem j5.below {B B' : Nat} {w w' : World} {cs : List Value} {o : oc} (h : j5 B w cs o) (hb : Below B' w w') (hB : B <= B') : j5 B w' cs o := by
 obtain ⟨a_labels, c_labels, a_keys, c_keys, a_vals, c_vals, h0, h1, h2, h3, h4, h5, h6⟩ := h;exact ⟨a_labels, c_labels, a_keys, c_keys, a_vals, c_vals, h0, h1, h2.below hb hB, h3, h4.below hb hB, h5, h6.below hb hB (fun _ _ h => bK.below hb hB _ _ h)⟩
theorem j5.mono {B B' : Nat} {w : World} {cs : List Value} {o : oc} (h : j5 B w cs o) (hB : B <= B') : j5 B' w cs o := by
 obtain ⟨a_labels, c_labels, a_keys, c_keys, a_vals, c_vals, h0, h1, h2, h3, h4, h5, h6⟩ := h;exact ⟨a_labels, c_labels, a_keys, c_keys, a_vals, c_vals, h0, h1, h2.mono hB, h3, h4.mono hB, h5, h6.mono hB (fun _ _ h => bK.mono hB _ _ h)⟩
def br (o : oc) : Nat := 1 + o.var.size + ju o.labels + ju o.keys + dm o.vals
structure od where
  var : ByteArray
  ty : ByteArray
  dir : Int
  keys : List ByteArray
  vals : List Ex
def j6 (B : Nat) (w : World) (cs : List Value) (o : od) : Prop :=
  ∃ a_keys c_keys a_vals c_vals, cs = [.string o.var, .string o.ty, .int .i64 o.dir, .slice a_keys o.keys.length c_keys, .slice a_vals o.vals.length c_vals] /\ bJ o.dir /\ aZ a_keys o.keys.length c_keys /\ co B w a_keys o.keys /\ aZ a_vals o.vals.length c_vals /\ cg (bK B w) 10 B w a_vals o.vals
theorem j6.below {B B' : Nat} {w w' : World} {cs : List Value} {o : od} (h : j6 B w cs o) (hb : Below B' w w') (hB : B <= B') : j6 B w' cs o := by
 obtain ⟨a_keys, c_keys, a_vals, c_vals, h0, h1, h2, h3, h4, h5⟩ := h;exact ⟨a_keys, c_keys, a_vals, c_vals, h0, h1, h2, h3.below hb hB, h4, h5.below hb hB (fun _ _ h => bK.below hb hB _ _ h)⟩
theorem j6.mono {B B' : Nat} {w : World} {cs : List Value} {o : od} (h : j6 B w cs o) (hB : B <= B') : j6 B' w cs o := by
 obtain ⟨a_keys, c_keys, a_vals, c_vals, h0, h1, h2, h3, h4, h5⟩ := h;exact ⟨a_keys, c_keys, a_vals, c_vals, h0, h1, h2, h3.mono hB, h4, h5.mono hB (fun _ _ h => bK.mono hB _ _ h)⟩
def bs (o : od) : Nat := 1 + o.var.size + o.ty.size + ju o.keys + dm o.vals
structure lL where
  nodes : List oc
  edges : List od
def iT (B : Nat) (w : World) (cs : List Value) (o : lL) : Prop :=
  ∃ a_nodes c_nodes a_edges c_edges, cs = [.slice a_nodes o.nodes.length c_nodes, .slice a_edges o.edges.length c_edges] /\ aZ a_nodes o.nodes.length c_nodes /\ cg (j5 B w) 4 B w a_nodes o.nodes /\ aZ a_edges o.edges.length c_edges /\ cg (j6 B w) 5 B w a_edges o.edges
theorem iT.below {B B' : Nat} {w w' : World} {cs : List Value} {o : lL} (h : iT B w cs o) (hb : Below B' w w') (hB : B <= B') : iT B w' cs o := by
 obtain ⟨a_nodes, c_nodes, a_edges, c_edges, h0, h1, h2, h3, h4⟩ := h;exact ⟨a_nodes, c_nodes, a_edges, c_edges, h0, h1, h2.below hb hB (fun _ _ h => h.below hb hB), h3, h4.below hb hB (fun _ _ h => h.below hb hB)⟩
theorem iT.mono {B B' : Nat} {w : World} {cs : List Value} {o : lL} (h : iT B w cs o) (hB : B <= B') : iT B' w cs o := by
 obtain ⟨a_nodes, c_nodes, a_edges, c_edges, h0, h1, h2, h3, h4⟩ := h;exact ⟨a_nodes, c_nodes, a_edges, c_edges, h0, h1, h2.mono hB (fun _ _ h => h.mono hB), h3, h4.mono hB (fun _ _ h => h.mono hB)⟩
def bt (o : lL) : Nat := 1 + (o.nodes.map br).sum + (o.edges.map bs).sum
structure mj where
  e : Ex
  nm : ByteArray
def ji (B : Nat) (w : World) (cs : List Value) (o : mj) : Prop :=
  ∃ x_e, cs = x_e ++ [.string o.nm] /\ bK B w x_e o.e
theorem ji.below {B B' : Nat} {w w' : World} {cs : List Value} {o : mj} (h : ji B w cs o) (hb : Below B' w w') (hB : B <= B') : ji B w' cs o := by
 obtain ⟨x_e, h0, h1⟩ := h;exact ⟨x_e, h0, bK.below hb hB _ _ h1⟩
theorem ji.mono {B B' : Nat} {w : World} {cs : List Value} {o : mj} (h : ji B w cs o) (hB : B <= B') : ji B' w cs o := by
 obtain ⟨x_e, h0, h1⟩ := h;exact ⟨x_e, h0, bK.mono hB _ _ h1⟩
def bB (o : mj) : Nat := 1 + ee o.e + o.nm.size
structure oe where
  e : Ex
  down : Bool
def jj (B : Nat) (w : World) (cs : List Value) (o : oe) : Prop :=
  ∃ x_e, cs = x_e ++ [.bool o.down] /\ bK B w x_e o.e
theorem jj.below {B B' : Nat} {w w' : World} {cs : List Value} {o : oe} (h : jj B w cs o) (hb : Below B' w w') (hB : B <= B') : jj B w' cs o := by
 obtain ⟨x_e, h0, h1⟩ := h;exact ⟨x_e, h0, bK.below hb hB _ _ h1⟩
theorem jj.mono {B B' : Nat} {w : World} {cs : List Value} {o : oe} (h : jj B w cs o) (hB : B <= B') : jj B' w cs o := by
 obtain ⟨x_e, h0, h1⟩ := h;exact ⟨x_e, h0, bK.mono hB _ _ h1⟩
def bE (o : oe) : Nat := 1 + ee o.e
structure lD where
  var : ByteArray
  key : ByteArray
  label : ByteArray
  e : Ex
def jk (B : Nat) (w : World) (cs : List Value) (o : lD) : Prop :=
  ∃ x_e, cs = [.string o.var, .string o.key, .string o.label] ++ x_e /\ bK B w x_e o.e
theorem jk.below {B B' : Nat} {w w' : World} {cs : List Value} {o : lD} (h : jk B w cs o) (hb : Below B' w w') (hB : B <= B') : jk B w' cs o := by
 obtain ⟨x_e, h0, h1⟩ := h;exact ⟨x_e, h0, bK.below hb hB _ _ h1⟩
theorem jk.mono {B B' : Nat} {w : World} {cs : List Value} {o : lD} (h : jk B w cs o) (hB : B <= B') : jk B' w cs o := by
 obtain ⟨x_e, h0, h1⟩ := h;exact ⟨x_e, h0, bK.mono hB _ _ h1⟩
def bv (o : lD) : Nat := 1 + o.var.size + o.key.size + o.label.size + ee o.e
structure dS where
  kind : Int
  paths : List lL
  whr : List Ex
  e : Ex
  var : ByteArray
  items : List mj
  uniq : Bool
  order : List oe
  skip : List Ex
  limit : List Ex
  sets : List lD
  vars : List ByteArray
  detach : Bool
def df (B : Nat) (w : World) (cs : List Value) (o : dS) : Prop :=
  ∃ a_paths c_paths a_whr c_whr x_e a_items c_items a_order c_order a_skip c_skip a_limit c_limit a_sets c_sets a_vars c_vars, cs = [.int .i64 o.kind, .slice a_paths o.paths.length c_paths, .slice a_whr o.whr.length c_whr] ++ (x_e ++ [.string o.var, .slice a_items o.items.length c_items, .bool o.uniq, .slice a_order o.order.length c_order, .slice a_skip o.skip.length c_skip, .slice a_limit o.limit.length c_limit, .slice a_sets o.sets.length c_sets, .slice a_vars o.vars.length c_vars, .bool o.detach]) /\ bJ o.kind /\ aZ a_paths o.paths.length c_paths /\ cg (iT B w) 2 B w a_paths o.paths /\ aZ a_whr o.whr.length c_whr /\ cg (bK B w) 10 B w a_whr o.whr /\ bK B w x_e o.e /\ aZ a_items o.items.length c_items /\ cg (ji B w) 11 B w a_items o.items /\ aZ a_order o.order.length c_order /\ cg (jj B w) 11 B w a_order o.order /\ aZ a_skip o.skip.length c_skip /\ cg (bK B w) 10 B w a_skip o.skip /\ aZ a_limit o.limit.length c_limit /\ cg (bK B w) 10 B w a_limit o.limit /\ aZ a_sets o.sets.length c_sets /\ cg (jk B w) 13 B w a_sets o.sets /\ aZ a_vars o.vars.length c_vars /\ co B w a_vars o.vars
theorem df.below {B B' : Nat} {w w' : World} {cs : List Value} {o : dS} (h : df B w cs o) (hb : Below B' w w') (hB : B <= B') : df B w' cs o := by
 obtain ⟨a_paths, c_paths, a_whr, c_whr, x_e, a_items, c_items, a_order, c_order, a_skip, c_skip, a_limit, c_limit, a_sets, c_sets, a_vars, c_vars, h0, h1, h2, h3, h4, h5, h6, h7, h8, h9, h10, h11, h12, h13, h14, h15, h16, h17, h18⟩ := h;exact ⟨a_paths, c_paths, a_whr, c_whr, x_e, a_items, c_items, a_order, c_order, a_skip, c_skip, a_limit, c_limit, a_sets, c_sets, a_vars, c_vars, h0, h1, h2, h3.below hb hB (fun _ _ h => h.below hb hB), h4, h5.below hb hB (fun _ _ h => bK.below hb hB _ _ h), bK.below hb hB _ _ h6, h7, h8.below hb hB (fun _ _ h => h.below hb hB), h9, h10.below hb hB (fun _ _ h => h.below hb hB), h11, h12.below hb hB (fun _ _ h => bK.below hb hB _ _ h), h13, h14.below hb hB (fun _ _ h => bK.below hb hB _ _ h), h15, h16.below hb hB (fun _ _ h => h.below hb hB), h17, h18.below hb hB⟩
theorem df.mono {B B' : Nat} {w : World} {cs : List Value} {o : dS} (h : df B w cs o) (hB : B <= B') : df B' w cs o := by
 obtain ⟨a_paths, c_paths, a_whr, c_whr, x_e, a_items, c_items, a_order, c_order, a_skip, c_skip, a_limit, c_limit, a_sets, c_sets, a_vars, c_vars, h0, h1, h2, h3, h4, h5, h6, h7, h8, h9, h10, h11, h12, h13, h14, h15, h16, h17, h18⟩ := h;exact ⟨a_paths, c_paths, a_whr, c_whr, x_e, a_items, c_items, a_order, c_order, a_skip, c_skip, a_limit, c_limit, a_sets, c_sets, a_vars, c_vars, h0, h1, h2, h3.mono hB (fun _ _ h => h.mono hB), h4, h5.mono hB (fun _ _ h => bK.mono hB _ _ h), bK.mono hB _ _ h6, h7, h8.mono hB (fun _ _ h => h.mono hB), h9, h10.mono hB (fun _ _ h => h.mono hB), h11, h12.mono hB (fun _ _ h => bK.mono hB _ _ h), h13, h14.mono hB (fun _ _ h => bK.mono hB _ _ h), h15, h16.mono hB (fun _ _ h => h.mono hB), h17, h18.mono hB⟩
def aT (o : dS) : Nat := 1 + (o.paths.map bt).sum + dm o.whr + ee o.e + o.var.size + (o.items.map bB).sum + (o.order.map bE).sum + dm o.skip + dm o.limit + (o.sets.map bv).sum + ju o.vars
structure vC where
  clauses : List dS
def j7 (B : Nat) (w : World) (cs : List Value) (o : vC) : Prop :=
  ∃ a_clauses c_clauses, cs = [.slice a_clauses o.clauses.length c_clauses] /\ aZ a_clauses o.clauses.length c_clauses /\ cg (df B w) 22 B w a_clauses o.clauses
theorem j7.below {B B' : Nat} {w w' : World} {cs : List Value} {o : vC} (h : j7 B w cs o) (hb : Below B' w w') (hB : B <= B') : j7 B w' cs o := by
 obtain ⟨a_clauses, c_clauses, h0, h1, h2⟩ := h;exact ⟨a_clauses, c_clauses, h0, h1, h2.below hb hB (fun _ _ h => h.below hb hB)⟩
theorem j7.mono {B B' : Nat} {w : World} {cs : List Value} {o : vC} (h : j7 B w cs o) (hB : B <= B') : j7 B' w cs o := by
 obtain ⟨a_clauses, c_clauses, h0, h1, h2⟩ := h;exact ⟨a_clauses, c_clauses, h0, h1, h2.mono hB (fun _ _ h => h.mono hB)⟩
def nu (o : vC) : Nat := 1 + (o.clauses.map aT).sum
end Go.Proofs.YteljlahcdipilaaGreat
namespace Go.Proofs.YteljlahcdipilaaGreat
open Go.RowKit
def eQ (s : ByteArray) : Int :=
  if (s.toList == [79, 82]) = true then 1 else
  if (s.toList == [88, 79, 82]) = true then 2 else
  if (s.toList == [65, 78, 68]) = true then 3 else
  if (s.toList == [61]) = true then 5 else
  if (s.toList == [60, 62]) = true then 5 else
  if (s.toList == [60]) = true then 5 else
  if (s.toList == [60, 61]) = true then 5 else
  if (s.toList == [62]) = true then 5 else
  if (s.toList == [62, 61]) = true then 5 else
  if (s.toList == [73, 78]) = true then 5 else
  if (s.toList == [43]) = true then 6 else
  if (s.toList == [45]) = true then 6 else
  if (s.toList == [42]) = true then 7 else
  if (s.toList == [47]) = true then 7 else
  if (s.toList == [37]) = true then 7 else
  0
def eR (s : ByteArray) : Bool := (s.toList == [99, 111, 117, 110, 116]) || (s.toList == [115, 117, 109]) || (s.toList == [109, 105, 110]) || (s.toList == [109, 97, 120]) || (s.toList == [99, 111, 108, 108, 101, 99, 116])
def ci (s : ByteArray) : Bool := decide (1 <= s.size) && decide (s.size <= 64)
def kI : List Value := [.int .i64 0, .bool false, .int .i64 0, .string ⟨#[]⟩, .slice none 0 0, .slice none 0 0]
def cQ : Vt := .mk 0 false 0 ⟨#[]⟩ [] []
theorem fs (B : Nat) (w : World) : dR B w kI cQ := by
 unfold cQ dR;exact ⟨none, 0, none, 0, rfl, by unfold bJ; omega, by unfold bJ; omega, by simp, by simp, fun _ => rfl, fun _ => rfl, .inl rfl, by simp [eN]⟩
def kJ : Ex -> Bool
  | .mk op nm v ns az => (op == 0) && ((nm.toList == []) && (dV v cQ && (decide (ns.length = 0) && decide (az.length = 0))))
def ML (w : World) : Prop := 0 < w.heap.size /\ ∃ m, w.cell? yj = some (.int .i64 m)
theorem ML.below {w w' : World} (h : ML w) (hb : Below w.heap.size w w') : ML w' := by
 obtain ⟨h1, m, h2⟩ := h;exact ⟨Nat.lt_of_lt_of_le h1 hb.size, m, by rw [hb.cell (by show 0 < w.heap.size; exact h1)]; exact h2⟩
def cw (s : ByteArray) : Bool := gz s.data.toList && !ew s.data.toList
theorem vD (l : List UInt8) : ∃ t, kz l = .tuple #[.string t, .bool (ew l)] := by
 unfold kz;cases h : ew l with
 | true => exact ⟨_, rfl⟩
 | false => exact ⟨_, rfl⟩
theorem dJ (s : ByteArray) (w : World) (hs : s.size <= 1099511627776) (hm : ML w) : Calls Tryz.prog 156 #[.string s] w fun e w' => e = .returned (.bool (cw s)) /\ Below w.heap.size w w' := by
 obtain ⟨t, ht⟩ := vD s.data.toList;obtain ⟨b, hb⟩ := nam (ew s.data.toList);obtain ⟨c, hc⟩ := nam (gz s.data.toList);obtain ⟨h1, m, h2⟩ := hm;have HW := aa (oJ s m w hs h2 h1);rw [ht, hb] at HW;have HN : Hid (∀ u, Calls Tryz.prog 72 #[.string s] u fun e w' => e = .returned (.bool c) /\ Below u.heap.size u w') := aa (fun u => by rw [<- hc]; exact lU s u hs);have hq : cw s = (c && !b) := by unfold cw; rw [hb, hc]
 rw [hq];clear hq ht hb hc h1 h2;cases c <;> cases b <;>
 · go_enter Tryz.func156, Tryz.ntmps156
   go_wp2_with fail;refine HW.out.mono ?_;rintro e w1 ⟨rfl, hb1⟩;have HB1 := aa hb1;clear hb1;go_wp2_with fail;refine (HN.out _).mono ?_;rintro e w2 ⟨rfl, hb2⟩;have HB2 := aa (HB1.out.trans (hb2.mono HB1.out.size));clear hb2;go_wp2_with fail;go_ret;exact ⟨rfl, HB2.out⟩
def qM : Vt -> Bool
  | .mk k b i s l ks => uH (.mk k b i s l ks) && ((k == 0) || ((k == 1) || (((k == 2) && decide (0 <= i)) || (k == 3))))
def Bn : Ex -> Int
  | .mk op _ _ _ _ => op
def jl (l : List Ex) : Int := match l with
  | [] => 0
  | t :: _ => Bn t
def qN : Ex -> Bool
  | .mk op nm v ns az =>
    if op = 1 then (nm.toList == []) && (((az.length : Int) == 0) && qM v)
    else if op = 2 then ((az.length : Int) == 0) && cw nm
    else if op = 3 then ((az.length : Int) == 0) && cw nm
    else if op = 4 then ((az.length : Int) == 1) && ci nm
    else if op = 15 then ((az.length : Int) == 1) && (ci nm && (jl az == 2))
    else if op = 5 then (nm.toList == [])
    else if op = 6 then ns.all ci && ((nm.toList == []) && ((az.length : Int) == ns.length))
    else if op = 7 then (nm.toList == []) && ((az.length : Int) == 2)
    else if op = 8 then (nm.toList == []) && ((az.length : Int) == 1)
    else if op = 9 then (nm.toList == []) && ((az.length : Int) == 1)
    else if op = 11 then (nm.toList == []) && ((az.length : Int) == 1)
    else if op = 12 then (nm.toList == []) && ((az.length : Int) == 1)
    else if op = 10 then ((az.length : Int) == 2) && decide (0 < eQ nm)
    else if op = 13 then cw nm && !eR nm
    else if op = 14 then (((az.length : Int) == 1) && eR nm) || (((az.length : Int) == 0) && (nm.toList == [99, 111, 117, 110, 116]))
    else false
theorem aq.start (B : Nat) (w : World) : ∃ u : aq B w, w = u.w := ⟨⟨w, Below.refl _ _⟩, rfl⟩
theorem bg (w : World) (cs : List Value) (ty : TypeId) : ∃ (W0 : World) (u0 : aq (w.heap.size + 1) W0), w.alloc (.cells cs.toArray ty) = W0 /\ W0 = u0.w /\ w.heap.size + 1 <= W0.heap.size /\
    (∀ u : aq (w.heap.size + 1) W0, Below w.heap.size w u.w) /\ (∀ (u : aq (w.heap.size + 1) W0) (i : Nat) v, cs[i]? = some v -> u.w.cell? ⟨w.heap.size, i, none⟩ = some v) := by
 obtain ⟨W0, hW0⟩ := nam (w.alloc (.cells cs.toArray ty));obtain ⟨u0, hu0⟩ := aq.start (w.heap.size + 1) W0;have hbx : ae W0 w.heap.size cs ty := by rw [<- hW0]; exact ae.new w _ _
 have hb0 : Below w.heap.size w W0 := by rw [<- hW0]; exact (Below.refl _ _).alloc (Nat.le_refl _) _
 refine ⟨W0, u0, hW0, hu0, by rw [<- hW0]; simp, fun u => hb0.trans (u.below.mono (by omega)), fun u i v hv => u.cell (by show w.heap.size < _; omega) (hbx.cell hv)⟩
theorem eB {P : Program} {C : Nat} {w : World} {f : FuncId} {args : Array Value} {v : Value} (u : aq C w) (h : Calls P f args u.w fun e w' => e = .returned v /\ u.w = w') :
    Calls P f args u.w fun e w'' => e = .returned v /\ ∃ u' : aq C w, w'' = u'.w := h.mono fun _ w'' ⟨he, hb⟩ => ⟨he, u, hb.symm⟩
theorem Sq671107 {P : Prop} (h : P := by
 obtain ⟨b, off, cs, h1, h2, h3, h4, h5⟩ := h j t ht;exact ⟨b, off, cs, h1, h2, fun u q v hv => ((hbe u).cell (p := ⟨b, off + j * 10 + q, none⟩) (by show b < _; omega)).trans (by rw [Nat.add_assoc]; exact h4 q v hv), fun u => bK.below (hbe u) hB _ _ h5⟩) : P := h
theorem cg.at_ext {B C : Nat} {w W0 : World} {xa : Option Addr} {az : List Ex} (h : cg (bK B w) 10 B w xa az) (hB : B <= w.heap.size) (hbe : ∀ u : aq C W0, Below w.heap.size w u.w) {j : Nat} {t : Ex} (ht : az[j]? = some t) :
    ∃ b off cs, xa = some ⟨b, off, none⟩ /\ b < B /\ (∀ (u : aq C W0) (q : Nat) v, cs[q]? = some v -> u.w.cell? ⟨b, off + j * 10 + q, none⟩ = some v) /\ ∀ u : aq C W0, bK B u.w cs t := Sq671107
theorem co.at_ext {B C : Nat} {w W0 : World} {a : Option Addr} {ks : List ByteArray} (h : co B w a ks) (hB : B <= w.heap.size) (hbe : ∀ u : aq C W0, Below w.heap.size w u.w) {j : Nat} {x : ByteArray} (hx : ks[j]? = some x) :
    ∃ b off, a = some ⟨b, off, none⟩ /\ b < B /\ ∀ u : aq C W0, u.w.cell? ⟨b, off + j, none⟩ = some (.string x) := by
 obtain ⟨b, off, h1, h2, h3⟩ := h.get hx;exact ⟨b, off, h1, h2, fun u => ((hbe u).cell (p := ⟨b, off + j, none⟩) (by show b < _; omega)).trans h3⟩
theorem bj {α : Type} {f : α -> Bool} {l : List α} {j : Nat} {x : α} (hx : l[j]? = some x) (h : f x = false) : l.all f = false := by
 rw [List.all_eq_false];exact ⟨x, List.mem_of_getElem? hx, by rw [h]; simp⟩
theorem bC {α : Type} {f : α -> Bool} {l : List α} (h : ∀ (j : Nat) (x : α), l[j]? = some x -> f x = true) : l.all f = true := by
 rw [List.all_eq_true];intro x hx;obtain ⟨j, hj⟩ := List.getElem?_of_mem hx;exact h j x hj
theorem nz {l : List ByteArray} {j : Nat} {k : ByteArray} (h : l[j]? = some k) : k.size + 1 <= ju l := by
 unfold ju;exact kf (fun k : ByteArray => k.size + 1) h
theorem eG (l : List ByteArray) : l.length <= ju l := by
 unfold ju
 induction l with
 | nil => simp
 | cons a l ih => simp only [List.length_cons, List.map_cons, List.sum_cons]; omega
def BB : Ex -> Bool
  | .mk op nm v ns az => qN (.mk op nm v ns az) && (((op == 1) || dV v cQ) && ((op == 6) || decide (ns.length = 0)))
def bD : Nat -> Ex -> Bool
  | 0, _ => false
  | d + 1, .mk op nm v ns az => BB (.mk op nm v ns az) && az.all (bD d)
theorem vE {op : Int} {nm : ByteArray} {v : Vt} {ns : List ByteArray} {az : List Ex} {j : Nat} {t : Ex} (h : az[j]? = some t) : ee t <= ee (.mk op nm v ns az) := by
 have := kH h;simp only [ee];omega
end Go.Proofs.YteljlahcdipilaaGreat

/- Parts X1, X2, X3, X4, X5, X6, X8, X9 of this seat (pruned, scripts that are alike kept once as default arguments: q1, q2, ..). Conditions: each says its own. -/
import Derived.Test.YteljlahcdipilaaGreatF4
import Derived.Test.YteljlahcdipilaaGreatF12
namespace Go.Proofs.YteljlahcdipilaaGreat
open Go.RowKit Go.Deep Go.ChangeShapes Go.WideShapes
set_option linter.unusedVariables false
set_option linter.unusedSimpArgs false
set_option maxRecDepth 100000
def SlOk (a : Option Addr) (n c : Nat) : Prop := (n ≤ c ∧ c ≤ 9223372036854775807) ∧ (a = none → c = 0)
def RowR {α : Type} (R : List Value → α → Prop) (size B : Nat) (w : World) (a : Option Addr) (l : List α) : Prop :=
  ∀ (i : Nat) (o : α), l[i]? = some o → ∃ b off cs, a = some ⟨b, off, none⟩ ∧ b < B ∧ cs.length = size ∧ (∀ j v, cs[j]? = some v → w.cell? ⟨b, off + (i * size + j), none⟩ = some v) ∧ R cs o
theorem RowR.below {α : Type} {R R' : List Value → α → Prop} {size B B' : Nat} {w w' : World} {a : Option Addr} {l : List α} (h : RowR R size B w a l) (hb : Below B' w w') (hB : B ≤ B') (hR : ∀ cs x, R cs x → R' cs x) : RowR R' size B w' a l := by
 intro i o ho
 obtain ⟨b, off, cs, h1, h2, h3, h4, h5⟩ := h i o ho
 exact ⟨b, off, cs, h1, h2, h3, fun j v hv => by rw [hb.cell (by show b < B'; omega)]; exact h4 j v hv, hR _ _ h5⟩
theorem RowR.mono {α : Type} {R R' : List Value → α → Prop} {size B B' : Nat} {w : World} {a : Option Addr} {l : List α} (h : RowR R size B w a l) (hB : B ≤ B') (hR : ∀ cs x, R cs x → R' cs x) : RowR R' size B' w a l := by
 intro i o ho
 obtain ⟨b, off, cs, h1, h2, h3, h4, h5⟩ := h i o ho
 exact ⟨b, off, cs, h1, by omega, h3, h4, hR _ _ h5⟩
def wtS (ks : List ByteArray) : Nat := (ks.map fun k => k.size + 1).sum
inductive Ex where
  | mk (op : Int) (nm : ByteArray) (val : Vt) (ns : List ByteArray) (args : List Ex)
mutual
def IsX (B : Nat) (w : World) : List Value → Ex → Prop
  | cs, .mk op nm v ns az => ∃ vc na nc xa xc, cs = .int .i64 op :: .string nm :: (vc ++ [.slice na ns.length nc, .slice xa az.length xc]) ∧ in64 op ∧ IsV B w vc v ∧ SlOk na ns.length nc ∧ SlOk xa az.length xc ∧ StrRow B w na ns ∧ IsXs B w xa 0 az
def IsXs (B : Nat) (w : World) : Option Addr → Nat → List Ex → Prop
  | _, _, [] => True
  | a, n, t :: ts => (∃ b off cs, a = some ⟨b, off, none⟩ ∧ b < B ∧ cs.length = 10 ∧ (∀ j v, cs[j]? = some v → w.cell? ⟨b, off + (n * 10 + j), none⟩ = some v) ∧ IsX B w cs t) ∧ IsXs B w a (n + 1) ts
end
mutual
def wtX : Ex → Nat
  | .mk _ nm v ns az => 1 + nm.size + wtV v + wtS ns + wtXs az
def wtXs : List Ex → Nat
  | [] => 0
  | t :: ts => wtX t + wtXs ts
end
theorem wtX_pos (t : Ex) : 1 ≤ wtX t := by cases t; unfold wtX; omega
theorem wtXs_sum (l : List Ex) : wtXs l = (l.map wtX).sum := by
 induction l with
 | nil => simp [wtXs]
 | cons t ts ih => simp [wtXs, ih]
theorem wtXs_len (l : List Ex) : l.length ≤ wtXs l := by
 induction l with
 | nil => simp
 | cons t ts ih => have := wtX_pos t; simp only [wtXs, List.length_cons]; omega
theorem wtXs_get {l : List Ex} {i : Nat} {t : Ex} (h : l[i]? = some t) : wtX t ≤ wtXs l := by rw [wtXs_sum]; exact sum_get wtX h
theorem Ex.down {p : Ex → Prop} (h : ∀ op nm v ns az, (∀ (j : Nat) t, az[j]? = some t → p t) → p (.mk op nm v ns az)) (t : Ex) : p t := by
 induction hn : wtX t using Nat.strongRecOn generalizing t with
 | _ n ih =>
  obtain ⟨op, nm, v, ns, az⟩ := t
  refine h op nm v ns az fun j t ht => ih (wtX t) ?_ t rfl
  have := wtXs_get ht
  rw [← hn]
  simp only [wtX]
  omega
theorem IsXs.row {B : Nat} {w : World} {a : Option Addr} {l : List Ex} : ∀ {n : Nat}, IsXs B w a n l → ∀ (i : Nat) (t : Ex), l[i]? = some t →
    ∃ b off cs, a = some ⟨b, off, none⟩ ∧ b < B ∧ cs.length = 10 ∧ (∀ j v, cs[j]? = some v → w.cell? ⟨b, off + ((n + i) * 10 + j), none⟩ = some v) ∧ IsX B w cs t := by
 induction l with
 | nil => intro n _ i t h; simp at h
 | cons u us ih =>
  intro n h i t ht
  unfold IsXs at h
  cases i with
  | zero => simp at ht; subst ht; exact h.1
  | succ i =>
   have := ih h.2 i t (by simpa using ht)
   rwa [show n + 1 + i = n + (i + 1) from by omega] at this
theorem IsXs.mk {B : Nat} {w : World} {a : Option Addr} {l : List Ex} : ∀ {n : Nat}, (∀ (i : Nat) (t : Ex), l[i]? = some t →
    ∃ b off cs, a = some ⟨b, off, none⟩ ∧ b < B ∧ cs.length = 10 ∧ (∀ j v, cs[j]? = some v → w.cell? ⟨b, off + ((n + i) * 10 + j), none⟩ = some v) ∧ IsX B w cs t) → IsXs B w a n l := by
 induction l with
 | nil => intro n _; simp [IsXs]
 | cons u us ih =>
  intro n h
  unfold IsXs
  exact ⟨h 0 u rfl, ih fun i t ht => by
   have := h (i + 1) t (by simpa using ht)
   rwa [show n + (i + 1) = n + 1 + i from by omega] at this⟩
theorem isXs_iff {B : Nat} {w : World} {a : Option Addr} {l : List Ex} : IsXs B w a 0 l ↔ RowR (IsX B w) 10 B w a l :=
  ⟨fun h i t ht => by have := h.row i t ht; rwa [Nat.zero_add] at this, fun h => IsXs.mk fun i t ht => by rw [Nat.zero_add]; exact h i t ht⟩
theorem IsX.below {B B' : Nat} {w w' : World} (hb : Below B' w w') (hB : B ≤ B') (t : Ex) : ∀ cs, IsX B w cs t → IsX B w' cs t := by
 refine t.down (p := fun t => ∀ cs, IsX B w cs t → IsX B w' cs t) fun op nm v ns az ih cs h => ?_
 unfold IsX at h ⊢
 obtain ⟨vc, na, nc, xa, xc, h1, h2, h3, h4, h5, h6, h7⟩ := h
 refine ⟨vc, na, nc, xa, xc, h1, h2, IsV.below hb hB v _ h3, h4, h5, h6.below hb hB, IsXs.mk fun j t ht => ?_⟩
 obtain ⟨b, off, cs', g1, g2, g3, g4, g5⟩ := h7.row j t ht
 exact ⟨b, off, cs', g1, g2, g3, fun q v hv => by rw [hb.cell (by show b < B'; omega)]; exact g4 q v hv, ih j t ht cs' g5⟩
theorem IsX.mono {B B' : Nat} {w : World} (hB : B ≤ B') (t : Ex) : ∀ cs, IsX B w cs t → IsX B' w cs t := by
 refine t.down (p := fun t => ∀ cs, IsX B w cs t → IsX B' w cs t) fun op nm v ns az ih cs h => ?_
 unfold IsX at h ⊢
 obtain ⟨vc, na, nc, xa, xc, h1, h2, h3, h4, h5, h6, h7⟩ := h
 refine ⟨vc, na, nc, xa, xc, h1, h2, IsV.mono hB v _ h3, h4, h5, h6.mono hB, IsXs.mk fun j t ht => ?_⟩
 obtain ⟨b, off, cs', g1, g2, g3, g4, g5⟩ := h7.row j t ht
 exact ⟨b, off, cs', g1, by omega, g3, g4, ih j t ht cs' g5⟩
theorem IsX.cells {B : Nat} {w : World} {cs : List Value} {op : Int} {nm : ByteArray} {v : Vt} {ns : List ByteArray} {az : List Ex} (h : IsX B w cs (.mk op nm v ns az)) :
    ∃ k b i s l ks la lc ka kc na nc xa xc, v = .mk k b i s l ks ∧ cs = [.int .i64 op, .string nm, .int .i64 k, .bool b, .int .i64 i, .string s, .slice la l.length lc, .slice ka ks.length kc, .slice na ns.length nc, .slice xa az.length xc] ∧ in64 op ∧
      IsV B w [.int .i64 k, .bool b, .int .i64 i, .string s, .slice la l.length lc, .slice ka ks.length kc] v ∧ SlOk na ns.length nc ∧ SlOk xa az.length xc ∧ StrRow B w na ns ∧ RowR (IsX B w) 10 B w xa az := by
 obtain ⟨k, b, i, s, l, ks⟩ := v
 unfold IsX at h
 obtain ⟨vc, na, nc, xa, xc, h1, h2, h3, h4, h5, h6, h7⟩ := h
 have h9 := h3
 unfold IsV at h9
 obtain ⟨la, lc, ka, kc, rfl, -⟩ := h9
 exact ⟨k, b, i, s, l, ks, la, lc, ka, kc, na, nc, xa, xc, rfl, h1, h2, h3, h4, h5, h6, isXs_iff.1 h7⟩
structure Npt where
  var : ByteArray
  labels : List ByteArray
  keys : List ByteArray
  vals : List Ex
def IsNp (B : Nat) (w : World) (cs : List Value) (o : Npt) : Prop :=
  ∃ a_labels c_labels a_keys c_keys a_vals c_vals, cs = [.string o.var, .slice a_labels o.labels.length c_labels, .slice a_keys o.keys.length c_keys, .slice a_vals o.vals.length c_vals] ∧ SlOk a_labels o.labels.length c_labels ∧ StrRow B w a_labels o.labels ∧ SlOk a_keys o.keys.length c_keys ∧ StrRow B w a_keys o.keys ∧ SlOk a_vals o.vals.length c_vals ∧ RowR (IsX B w) 10 B w a_vals o.vals
theorem IsNp.below {B B' : Nat} {w w' : World} {cs : List Value} {o : Npt} (h : IsNp B w cs o) (hb : Below B' w w') (hB : B ≤ B') : IsNp B w' cs o := by
 obtain ⟨a_labels, c_labels, a_keys, c_keys, a_vals, c_vals, h0, h1, h2, h3, h4, h5, h6⟩ := h
 exact ⟨a_labels, c_labels, a_keys, c_keys, a_vals, c_vals, h0, h1, h2.below hb hB, h3, h4.below hb hB, h5, h6.below hb hB (fun _ _ h => IsX.below hb hB _ _ h)⟩
theorem IsNp.mono {B B' : Nat} {w : World} {cs : List Value} {o : Npt} (h : IsNp B w cs o) (hB : B ≤ B') : IsNp B' w cs o := by
 obtain ⟨a_labels, c_labels, a_keys, c_keys, a_vals, c_vals, h0, h1, h2, h3, h4, h5, h6⟩ := h
 exact ⟨a_labels, c_labels, a_keys, c_keys, a_vals, c_vals, h0, h1, h2.mono hB, h3, h4.mono hB, h5, h6.mono hB (fun _ _ h => IsX.mono hB _ _ h)⟩
def wtNp (o : Npt) : Nat := 1 + o.var.size + wtS o.labels + wtS o.keys + wtXs o.vals
structure Ept where
  var : ByteArray
  ty : ByteArray
  dir : Int
  keys : List ByteArray
  vals : List Ex
def IsEp (B : Nat) (w : World) (cs : List Value) (o : Ept) : Prop :=
  ∃ a_keys c_keys a_vals c_vals, cs = [.string o.var, .string o.ty, .int .i64 o.dir, .slice a_keys o.keys.length c_keys, .slice a_vals o.vals.length c_vals] ∧ in64 o.dir ∧ SlOk a_keys o.keys.length c_keys ∧ StrRow B w a_keys o.keys ∧ SlOk a_vals o.vals.length c_vals ∧ RowR (IsX B w) 10 B w a_vals o.vals
theorem IsEp.below {B B' : Nat} {w w' : World} {cs : List Value} {o : Ept} (h : IsEp B w cs o) (hb : Below B' w w') (hB : B ≤ B') : IsEp B w' cs o := by
 obtain ⟨a_keys, c_keys, a_vals, c_vals, h0, h1, h2, h3, h4, h5⟩ := h
 exact ⟨a_keys, c_keys, a_vals, c_vals, h0, h1, h2, h3.below hb hB, h4, h5.below hb hB (fun _ _ h => IsX.below hb hB _ _ h)⟩
theorem IsEp.mono {B B' : Nat} {w : World} {cs : List Value} {o : Ept} (h : IsEp B w cs o) (hB : B ≤ B') : IsEp B' w cs o := by
 obtain ⟨a_keys, c_keys, a_vals, c_vals, h0, h1, h2, h3, h4, h5⟩ := h
 exact ⟨a_keys, c_keys, a_vals, c_vals, h0, h1, h2, h3.mono hB, h4, h5.mono hB (fun _ _ h => IsX.mono hB _ _ h)⟩
def wtEp (o : Ept) : Nat := 1 + o.var.size + o.ty.size + wtS o.keys + wtXs o.vals
structure Ptt where
  nodes : List Npt
  edges : List Ept
def IsPt (B : Nat) (w : World) (cs : List Value) (o : Ptt) : Prop :=
  ∃ a_nodes c_nodes a_edges c_edges, cs = [.slice a_nodes o.nodes.length c_nodes, .slice a_edges o.edges.length c_edges] ∧ SlOk a_nodes o.nodes.length c_nodes ∧ RowR (IsNp B w) 4 B w a_nodes o.nodes ∧ SlOk a_edges o.edges.length c_edges ∧ RowR (IsEp B w) 5 B w a_edges o.edges
theorem IsPt.below {B B' : Nat} {w w' : World} {cs : List Value} {o : Ptt} (h : IsPt B w cs o) (hb : Below B' w w') (hB : B ≤ B') : IsPt B w' cs o := by
 obtain ⟨a_nodes, c_nodes, a_edges, c_edges, h0, h1, h2, h3, h4⟩ := h
 exact ⟨a_nodes, c_nodes, a_edges, c_edges, h0, h1, h2.below hb hB (fun _ _ h => h.below hb hB), h3, h4.below hb hB (fun _ _ h => h.below hb hB)⟩
theorem IsPt.mono {B B' : Nat} {w : World} {cs : List Value} {o : Ptt} (h : IsPt B w cs o) (hB : B ≤ B') : IsPt B' w cs o := by
 obtain ⟨a_nodes, c_nodes, a_edges, c_edges, h0, h1, h2, h3, h4⟩ := h
 exact ⟨a_nodes, c_nodes, a_edges, c_edges, h0, h1, h2.mono hB (fun _ _ h => h.mono hB), h3, h4.mono hB (fun _ _ h => h.mono hB)⟩
def wtPt (o : Ptt) : Nat := 1 + (o.nodes.map wtNp).sum + (o.edges.map wtEp).sum
structure Itt where
  e : Ex
  nm : ByteArray
def IsIt (B : Nat) (w : World) (cs : List Value) (o : Itt) : Prop :=
  ∃ x_e, cs = x_e ++ [.string o.nm] ∧ IsX B w x_e o.e
theorem IsIt.below {B B' : Nat} {w w' : World} {cs : List Value} {o : Itt} (h : IsIt B w cs o) (hb : Below B' w w') (hB : B ≤ B') : IsIt B w' cs o := by
 obtain ⟨x_e, h0, h1⟩ := h
 exact ⟨x_e, h0, IsX.below hb hB _ _ h1⟩
theorem IsIt.mono {B B' : Nat} {w : World} {cs : List Value} {o : Itt} (h : IsIt B w cs o) (hB : B ≤ B') : IsIt B' w cs o := by
 obtain ⟨x_e, h0, h1⟩ := h
 exact ⟨x_e, h0, IsX.mono hB _ _ h1⟩
def wtIt (o : Itt) : Nat := 1 + wtX o.e + o.nm.size
structure Sot where
  e : Ex
  down : Bool
def IsSo (B : Nat) (w : World) (cs : List Value) (o : Sot) : Prop :=
  ∃ x_e, cs = x_e ++ [.bool o.down] ∧ IsX B w x_e o.e
theorem IsSo.below {B B' : Nat} {w w' : World} {cs : List Value} {o : Sot} (h : IsSo B w cs o) (hb : Below B' w w') (hB : B ≤ B') : IsSo B w' cs o := by
 obtain ⟨x_e, h0, h1⟩ := h
 exact ⟨x_e, h0, IsX.below hb hB _ _ h1⟩
theorem IsSo.mono {B B' : Nat} {w : World} {cs : List Value} {o : Sot} (h : IsSo B w cs o) (hB : B ≤ B') : IsSo B' w cs o := by
 obtain ⟨x_e, h0, h1⟩ := h
 exact ⟨x_e, h0, IsX.mono hB _ _ h1⟩
def wtSo (o : Sot) : Nat := 1 + wtX o.e
structure Sit where
  var : ByteArray
  key : ByteArray
  label : ByteArray
  e : Ex
def IsSi (B : Nat) (w : World) (cs : List Value) (o : Sit) : Prop :=
  ∃ x_e, cs = [.string o.var, .string o.key, .string o.label] ++ x_e ∧ IsX B w x_e o.e
theorem IsSi.below {B B' : Nat} {w w' : World} {cs : List Value} {o : Sit} (h : IsSi B w cs o) (hb : Below B' w w') (hB : B ≤ B') : IsSi B w' cs o := by
 obtain ⟨x_e, h0, h1⟩ := h
 exact ⟨x_e, h0, IsX.below hb hB _ _ h1⟩
theorem IsSi.mono {B B' : Nat} {w : World} {cs : List Value} {o : Sit} (h : IsSi B w cs o) (hB : B ≤ B') : IsSi B' w cs o := by
 obtain ⟨x_e, h0, h1⟩ := h
 exact ⟨x_e, h0, IsX.mono hB _ _ h1⟩
def wtSi (o : Sit) : Nat := 1 + o.var.size + o.key.size + o.label.size + wtX o.e
structure Clt where
  kind : Int
  paths : List Ptt
  whr : List Ex
  e : Ex
  var : ByteArray
  items : List Itt
  uniq : Bool
  order : List Sot
  skip : List Ex
  limit : List Ex
  sets : List Sit
  vars : List ByteArray
  detach : Bool
def IsCl (B : Nat) (w : World) (cs : List Value) (o : Clt) : Prop :=
  ∃ a_paths c_paths a_whr c_whr x_e a_items c_items a_order c_order a_skip c_skip a_limit c_limit a_sets c_sets a_vars c_vars, cs = [.int .i64 o.kind, .slice a_paths o.paths.length c_paths, .slice a_whr o.whr.length c_whr] ++ (x_e ++ [.string o.var, .slice a_items o.items.length c_items, .bool o.uniq, .slice a_order o.order.length c_order, .slice a_skip o.skip.length c_skip, .slice a_limit o.limit.length c_limit, .slice a_sets o.sets.length c_sets, .slice a_vars o.vars.length c_vars, .bool o.detach]) ∧ in64 o.kind ∧ SlOk a_paths o.paths.length c_paths ∧ RowR (IsPt B w) 2 B w a_paths o.paths ∧ SlOk a_whr o.whr.length c_whr ∧ RowR (IsX B w) 10 B w a_whr o.whr ∧ IsX B w x_e o.e ∧ SlOk a_items o.items.length c_items ∧ RowR (IsIt B w) 11 B w a_items o.items ∧ SlOk a_order o.order.length c_order ∧ RowR (IsSo B w) 11 B w a_order o.order ∧ SlOk a_skip o.skip.length c_skip ∧ RowR (IsX B w) 10 B w a_skip o.skip ∧ SlOk a_limit o.limit.length c_limit ∧ RowR (IsX B w) 10 B w a_limit o.limit ∧ SlOk a_sets o.sets.length c_sets ∧ RowR (IsSi B w) 13 B w a_sets o.sets ∧ SlOk a_vars o.vars.length c_vars ∧ StrRow B w a_vars o.vars
theorem IsCl.below {B B' : Nat} {w w' : World} {cs : List Value} {o : Clt} (h : IsCl B w cs o) (hb : Below B' w w') (hB : B ≤ B') : IsCl B w' cs o := by
 obtain ⟨a_paths, c_paths, a_whr, c_whr, x_e, a_items, c_items, a_order, c_order, a_skip, c_skip, a_limit, c_limit, a_sets, c_sets, a_vars, c_vars, h0, h1, h2, h3, h4, h5, h6, h7, h8, h9, h10, h11, h12, h13, h14, h15, h16, h17, h18⟩ := h
 exact ⟨a_paths, c_paths, a_whr, c_whr, x_e, a_items, c_items, a_order, c_order, a_skip, c_skip, a_limit, c_limit, a_sets, c_sets, a_vars, c_vars, h0, h1, h2, h3.below hb hB (fun _ _ h => h.below hb hB), h4, h5.below hb hB (fun _ _ h => IsX.below hb hB _ _ h), IsX.below hb hB _ _ h6, h7, h8.below hb hB (fun _ _ h => h.below hb hB), h9, h10.below hb hB (fun _ _ h => h.below hb hB), h11, h12.below hb hB (fun _ _ h => IsX.below hb hB _ _ h), h13, h14.below hb hB (fun _ _ h => IsX.below hb hB _ _ h), h15, h16.below hb hB (fun _ _ h => h.below hb hB), h17, h18.below hb hB⟩
theorem IsCl.mono {B B' : Nat} {w : World} {cs : List Value} {o : Clt} (h : IsCl B w cs o) (hB : B ≤ B') : IsCl B' w cs o := by
 obtain ⟨a_paths, c_paths, a_whr, c_whr, x_e, a_items, c_items, a_order, c_order, a_skip, c_skip, a_limit, c_limit, a_sets, c_sets, a_vars, c_vars, h0, h1, h2, h3, h4, h5, h6, h7, h8, h9, h10, h11, h12, h13, h14, h15, h16, h17, h18⟩ := h
 exact ⟨a_paths, c_paths, a_whr, c_whr, x_e, a_items, c_items, a_order, c_order, a_skip, c_skip, a_limit, c_limit, a_sets, c_sets, a_vars, c_vars, h0, h1, h2, h3.mono hB (fun _ _ h => h.mono hB), h4, h5.mono hB (fun _ _ h => IsX.mono hB _ _ h), IsX.mono hB _ _ h6, h7, h8.mono hB (fun _ _ h => h.mono hB), h9, h10.mono hB (fun _ _ h => h.mono hB), h11, h12.mono hB (fun _ _ h => IsX.mono hB _ _ h), h13, h14.mono hB (fun _ _ h => IsX.mono hB _ _ h), h15, h16.mono hB (fun _ _ h => h.mono hB), h17, h18.mono hB⟩
def wtCl (o : Clt) : Nat := 1 + (o.paths.map wtPt).sum + wtXs o.whr + wtX o.e + o.var.size + (o.items.map wtIt).sum + (o.order.map wtSo).sum + wtXs o.skip + wtXs o.limit + (o.sets.map wtSi).sum + wtS o.vars
structure Smt where
  clauses : List Clt
def IsSm (B : Nat) (w : World) (cs : List Value) (o : Smt) : Prop :=
  ∃ a_clauses c_clauses, cs = [.slice a_clauses o.clauses.length c_clauses] ∧ SlOk a_clauses o.clauses.length c_clauses ∧ RowR (IsCl B w) 22 B w a_clauses o.clauses
theorem IsSm.below {B B' : Nat} {w w' : World} {cs : List Value} {o : Smt} (h : IsSm B w cs o) (hb : Below B' w w') (hB : B ≤ B') : IsSm B w' cs o := by
 obtain ⟨a_clauses, c_clauses, h0, h1, h2⟩ := h
 exact ⟨a_clauses, c_clauses, h0, h1, h2.below hb hB (fun _ _ h => h.below hb hB)⟩
theorem IsSm.mono {B B' : Nat} {w : World} {cs : List Value} {o : Smt} (h : IsSm B w cs o) (hB : B ≤ B') : IsSm B' w cs o := by
 obtain ⟨a_clauses, c_clauses, h0, h1, h2⟩ := h
 exact ⟨a_clauses, c_clauses, h0, h1, h2.mono hB (fun _ _ h => h.mono hB)⟩
def wtSm (o : Smt) : Nat := 1 + (o.clauses.map wtCl).sum
end Go.Proofs.YteljlahcdipilaaGreat
namespace Go.Proofs.YteljlahcdipilaaGreat
open Go.RowKit
set_option linter.unusedSimpArgs false
set_option linter.unusedVariables false
set_option maxRecDepth 100000
def levelB (s : ByteArray) : Int :=
  if (s.toList == [79, 82]) = true then 1 else
  if (s.toList == [88, 79, 82]) = true then 2 else
  if (s.toList == [65, 78, 68]) = true then 3 else
  if (s.toList == [61]) = true then 5 else
  if (s.toList == [60, 62]) = true then 5 else
  if (s.toList == [60]) = true then 5 else
  if (s.toList == [60, 61]) = true then 5 else
  if (s.toList == [62]) = true then 5 else
  if (s.toList == [62, 61]) = true then 5 else
  if (s.toList == [73, 78]) = true then 5 else
  if (s.toList == [43]) = true then 6 else
  if (s.toList == [45]) = true then 6 else
  if (s.toList == [42]) = true then 7 else
  if (s.toList == [47]) = true then 7 else
  if (s.toList == [37]) = true then 7 else
  0
def aggB (s : ByteArray) : Bool := (s.toList == [99, 111, 117, 110, 116]) || (s.toList == [115, 117, 109]) || (s.toList == [109, 105, 110]) || (s.toList == [109, 97, 120]) || (s.toList == [99, 111, 108, 108, 101, 99, 116])
def keyB (s : ByteArray) : Bool := decide (1 ≤ s.size) && decide (s.size ≤ 64)
def zeroC : List Value := [.int .i64 0, .bool false, .int .i64 0, .string ⟨#[]⟩, .slice none 0 0, .slice none 0 0]
def emptyV : Vt := .mk 0 false 0 ⟨#[]⟩ [] []
theorem empty_isV (B : Nat) (w : World) : IsV B w zeroC emptyV := by
 unfold emptyV IsV
 exact ⟨none, 0, none, 0, rfl, by unfold in64; omega, by unfold in64; omega, by simp, by simp, fun _ => rfl, fun _ => rfl, .inl rfl, by simp [IsVs]⟩
def noneB : Ex → Bool
  | .mk op nm v ns az => (op == 0) && ((nm.toList == []) && (sameV v emptyV && (decide (ns.length = 0) && decide (az.length = 0))))
def ML (w : World) : Prop := 0 < w.heap.size ∧ ∃ m, w.cell? mlA = some (.int .i64 m)
theorem ML.below {w w' : World} (h : ML w) (hb : Below w.heap.size w w') : ML w' := by
 obtain ⟨h1, m, h2⟩ := h
 exact ⟨Nat.lt_of_lt_of_le h1 hb.size, m, by rw [hb.cell (by show 0 < w.heap.size; exact h1)]; exact h2⟩
def plainB (s : ByteArray) : Bool := nameB s.data.toList && !wordB s.data.toList
theorem wordR_eq (l : List UInt8) : ∃ t, wordR l = .tuple #[.string t, .bool (wordB l)] := by
 unfold wordR
 cases h : wordB l with
 | true => exact ⟨_, rfl⟩
 | false => exact ⟨_, rfl⟩
set_option maxHeartbeats 4000000 in
theorem splain_any (s : ByteArray) (w : World) (hs : s.size ≤ 1099511627776) (hm : ML w) : Calls Tryz.prog 156 #[.string s] w fun e w' => e = .returned (.bool (plainB s)) ∧ Below w.heap.size w w' := by
 obtain ⟨t, ht⟩ := wordR_eq s.data.toList
 obtain ⟨b, hb⟩ := nam (wordB s.data.toList)
 obtain ⟨c, hc⟩ := nam (nameB s.data.toList)
 obtain ⟨h1, m, h2⟩ := hm
 have HW := Lib.hid (word_any s m w hs h2 h1)
 rw [ht, hb] at HW
 have HN : Hid (∀ u, Calls Tryz.prog 72 #[.string s] u fun e w' => e = .returned (.bool c) ∧ Below u.heap.size u w') := Lib.hid (fun u => by rw [← hc]; exact sname_any s u hs)
 have hq : plainB s = (c && !b) := by unfold plainB; rw [hb, hc]
 rw [hq]
 clear hq ht hb hc h1 h2
 cases c <;> cases b <;>
 · go_enter Tryz.func156, Tryz.ntmps156
   go_wp2_with fail
   refine HW.out.mono ?_
   rintro e w1 ⟨rfl, hb1⟩
   have HB1 := Lib.hid hb1
   clear hb1
   go_wp2_with fail
   refine (HN.out _).mono ?_
   rintro e w2 ⟨rfl, hb2⟩
   have HB2 := Lib.hid (HB1.out.trans (hb2.mono HB1.out.size))
   clear hb2
   go_wp2_with fail
   go_ret
   exact ⟨rfl, HB2.out⟩
def litB : Vt → Bool
  | .mk k b i s l ks => mayB (.mk k b i s l ks) && ((k == 0) || ((k == 1) || (((k == 2) && decide (0 ≤ i)) || (k == 3))))
def opX : Ex → Int
  | .mk op _ _ _ _ => op
def firstOp (l : List Ex) : Int := match l with
  | [] => 0
  | t :: _ => opX t
def namedB : Ex → Bool
  | .mk op nm v ns az =>
    if op = 1 then (nm.toList == []) && (((az.length : Int) == 0) && litB v)
    else if op = 2 then ((az.length : Int) == 0) && plainB nm
    else if op = 3 then ((az.length : Int) == 0) && plainB nm
    else if op = 4 then ((az.length : Int) == 1) && keyB nm
    else if op = 15 then ((az.length : Int) == 1) && (keyB nm && (firstOp az == 2))
    else if op = 5 then (nm.toList == [])
    else if op = 6 then ns.all keyB && ((nm.toList == []) && ((az.length : Int) == ns.length))
    else if op = 7 then (nm.toList == []) && ((az.length : Int) == 2)
    else if op = 8 then (nm.toList == []) && ((az.length : Int) == 1)
    else if op = 9 then (nm.toList == []) && ((az.length : Int) == 1)
    else if op = 11 then (nm.toList == []) && ((az.length : Int) == 1)
    else if op = 12 then (nm.toList == []) && ((az.length : Int) == 1)
    else if op = 10 then ((az.length : Int) == 2) && decide (0 < levelB nm)
    else if op = 13 then plainB nm && !aggB nm
    else if op = 14 then (((az.length : Int) == 1) && aggB nm) || (((az.length : Int) == 0) && (nm.toList == [99, 111, 117, 110, 116]))
    else false
theorem Ext.start (B : Nat) (w : World) : ∃ u : Ext B w, w = u.w := ⟨⟨w, Below.refl _ _⟩, rfl⟩
theorem box_ext (w : World) (cs : List Value) (ty : TypeId) : ∃ (W0 : World) (u0 : Ext (w.heap.size + 1) W0), w.alloc (.cells cs.toArray ty) = W0 ∧ W0 = u0.w ∧ w.heap.size + 1 ≤ W0.heap.size ∧
    (∀ u : Ext (w.heap.size + 1) W0, Below w.heap.size w u.w) ∧ (∀ (u : Ext (w.heap.size + 1) W0) (i : Nat) v, cs[i]? = some v → u.w.cell? ⟨w.heap.size, i, none⟩ = some v) := by
 obtain ⟨W0, hW0⟩ := nam (w.alloc (.cells cs.toArray ty))
 obtain ⟨u0, hu0⟩ := Ext.start (w.heap.size + 1) W0
 have hbx : Block W0 w.heap.size cs ty := by rw [← hW0]; exact Block.new w _ _
 have hb0 : Below w.heap.size w W0 := by rw [← hW0]; exact (Below.refl _ _).alloc (Nat.le_refl _) _
 refine ⟨W0, u0, hW0, hu0, by rw [← hW0]; simp, fun u => hb0.trans (u.below.mono (by omega)), fun u i v hv => u.cell (by show w.heap.size < _; omega) (hbx.cell hv)⟩
theorem ext_call0 {P : Program} {C : Nat} {w : World} {f : FuncId} {args : Array Value} {v : Value} (u : Ext C w) (h : Calls P f args u.w fun e w' => e = .returned v ∧ u.w = w') :
    Calls P f args u.w fun e w'' => e = .returned v ∧ ∃ u' : Ext C w, w'' = u'.w := h.mono fun _ w'' ⟨he, hb⟩ => ⟨he, u, hb.symm⟩
theorem Sq669192 {P : Prop} (h : P := by
 obtain ⟨b, off, cs, h1, h2, h3, h4, h5⟩ := h j t ht
 exact ⟨b, off, cs, h1, h2, fun u q v hv => ((hbe u).cell (p := ⟨b, off + j * 10 + q, none⟩) (by show b < _; omega)).trans (by rw [Nat.add_assoc]; exact h4 q v hv), fun u => IsX.below (hbe u) hB _ _ h5⟩) : P := h
theorem RowR.at_ext {B C : Nat} {w W0 : World} {xa : Option Addr} {az : List Ex} (h : RowR (IsX B w) 10 B w xa az) (hB : B ≤ w.heap.size) (hbe : ∀ u : Ext C W0, Below w.heap.size w u.w) {j : Nat} {t : Ex} (ht : az[j]? = some t) :
    ∃ b off cs, xa = some ⟨b, off, none⟩ ∧ b < B ∧ (∀ (u : Ext C W0) (q : Nat) v, cs[q]? = some v → u.w.cell? ⟨b, off + j * 10 + q, none⟩ = some v) ∧ ∀ u : Ext C W0, IsX B u.w cs t := Sq669192
theorem StrRow.at_ext {B C : Nat} {w W0 : World} {a : Option Addr} {ks : List ByteArray} (h : StrRow B w a ks) (hB : B ≤ w.heap.size) (hbe : ∀ u : Ext C W0, Below w.heap.size w u.w) {j : Nat} {x : ByteArray} (hx : ks[j]? = some x) :
    ∃ b off, a = some ⟨b, off, none⟩ ∧ b < B ∧ ∀ u : Ext C W0, u.w.cell? ⟨b, off + j, none⟩ = some (.string x) := by
 obtain ⟨b, off, h1, h2, h3⟩ := h.get hx
 exact ⟨b, off, h1, h2, fun u => ((hbe u).cell (p := ⟨b, off + j, none⟩) (by show b < _; omega)).trans h3⟩
theorem anyL_false {α : Type} {f : α → Bool} {l : List α} {j : Nat} {x : α} (hx : l[j]? = some x) (h : f x = false) : l.all f = false := by
 rw [List.all_eq_false]
 exact ⟨x, List.mem_of_getElem? hx, by rw [h]; simp⟩
theorem allL_true {α : Type} {f : α → Bool} {l : List α} (h : ∀ (j : Nat) (x : α), l[j]? = some x → f x = true) : l.all f = true := by
 rw [List.all_eq_true]
 intro x hx
 obtain ⟨j, hj⟩ := List.getElem?_of_mem hx
 exact h j x hj
theorem wtS_get {l : List ByteArray} {j : Nat} {k : ByteArray} (h : l[j]? = some k) : k.size + 1 ≤ wtS l := by
 unfold wtS
 exact sum_get (fun k : ByteArray => k.size + 1) h
theorem wtS_len (l : List ByteArray) : l.length ≤ wtS l := by
 unfold wtS
 induction l with
 | nil => simp
 | cons a l ih => simp only [List.length_cons, List.map_cons, List.sum_cons]; omega
def ownB : Ex → Bool
  | .mk op nm v ns az => namedB (.mk op nm v ns az) && (((op == 1) || sameV v emptyV) && ((op == 6) || decide (ns.length = 0)))
def deepB : Nat → Ex → Bool
  | 0, _ => false
  | d + 1, .mk op nm v ns az => ownB (.mk op nm v ns az) && az.all (deepB d)
theorem wtX_args {op : Int} {nm : ByteArray} {v : Vt} {ns : List ByteArray} {az : List Ex} {j : Nat} {t : Ex} (h : az[j]? = some t) : wtX t ≤ wtX (.mk op nm v ns az) := by
 have := wtXs_get h
 simp only [wtX]
 omega
end Go.Proofs.YteljlahcdipilaaGreat

/- Parts X2 of this seat (pruned, scripts that are alike kept once as default arguments: q1, q2, ..). Conditions: each says its own. -/
import Derived.Test.YtndhpdclpgemfaaGreatZ8
namespace Go.Proofs.YtndhpdclpgemfaaGreat
open Go.RowKit Go.Deep Go.ChangeShapes Go.WideShapes
set_option linter.unusedVariables false
set_option linter.unusedSimpArgs false
set_option maxRecDepth 100000
structure Npt where
  var : ByteArray
  labels : List ByteArray
  keys : List ByteArray
  vals : List Ex
def IsNp (B : Nat) (w : World) (cs : List Value) (o : Npt) : Prop :=
  ∃ a_labels c_labels a_keys c_keys a_vals c_vals, cs = [.string o.var, .slice a_labels o.labels.length c_labels, .slice a_keys o.keys.length c_keys, .slice a_vals o.vals.length c_vals] ∧ SlOk a_labels o.labels.length c_labels ∧ StrRow B w a_labels o.labels ∧ SlOk a_keys o.keys.length c_keys ∧ StrRow B w a_keys o.keys ∧ SlOk a_vals o.vals.length c_vals ∧ RowR (IsX B w) 10 B w a_vals o.vals
theorem IsNp.below {B B' : Nat} {w w' : World} {cs : List Value} {o : Npt} (h : IsNp B w cs o) (hb : Below B' w w') (hB : B ≤ B') : IsNp B w' cs o := by
 obtain ⟨a_labels, c_labels, a_keys, c_keys, a_vals, c_vals, h0, h1, h2, h3, h4, h5, h6⟩ := h
 exact ⟨a_labels, c_labels, a_keys, c_keys, a_vals, c_vals, h0, h1, h2.below hb hB, h3, h4.below hb hB, h5, h6.below hb hB (fun _ _ h => IsX.below hb hB _ _ h)⟩
theorem IsNp.mono {B B' : Nat} {w : World} {cs : List Value} {o : Npt} (h : IsNp B w cs o) (hB : B ≤ B') : IsNp B' w cs o := by
 obtain ⟨a_labels, c_labels, a_keys, c_keys, a_vals, c_vals, h0, h1, h2, h3, h4, h5, h6⟩ := h
 exact ⟨a_labels, c_labels, a_keys, c_keys, a_vals, c_vals, h0, h1, h2.mono hB, h3, h4.mono hB, h5, h6.mono hB (fun _ _ h => IsX.mono hB _ _ h)⟩
def wtNp (o : Npt) : Nat := 1 + o.var.size + wtS o.labels + wtS o.keys + wtXs o.vals
theorem list4 {α : Type} {cs : List α} (h : cs.length = 4) : ∃ c0 c1 c2 c3, cs = [c0, c1, c2, c3] := by
 match cs, h with
 | [c0, c1, c2, c3], _ => exact ⟨c0, c1, c2, c3, rfl⟩
theorem open_Np {H : Type} {enc : TypeId × Value → H} {w : World} {base : Nat} {spare : Nat → Bool} {held : Bool} {fuel : Nat} {cs : List Value} {x : DataW H × List MemPlace} (h : DataW.trod enc Tryz.prog w base spare held fuel 62 cs = some x) : ∃ o : Npt, IsNp w.heap.size w cs o ∧ wtNp o ≤ Rows.uptoBulk x.1 := by
 obtain ⟨xs, n, _, hx, hcl, hxl, hf⟩ := DataW.trod_struct Tryz.underlying62 h
 obtain ⟨c0, c1, c2, c3, rfl⟩ := list4 (hcl.trans (by kernel_rfl))
 obtain ⟨y0, e0, t0⟩ := field_trod hxl hf 0 _ rfl (by kernel_rfl) c0 rfl
 obtain ⟨y1, e1, t1⟩ := field_trod hxl hf 1 _ rfl (by kernel_rfl) c1 rfl
 obtain ⟨y2, e2, t2⟩ := field_trod hxl hf 2 _ rfl (by kernel_rfl) c2 rfl
 obtain ⟨y3, e3, t3⟩ := field_trod hxl hf 3 _ rfl (by kernel_rfl) c3 rfl
 obtain ⟨z0, z1, z2, z3, rfl⟩ := list4 (show xs.length = 4 from hxl)
 simp at e0 e1 e2 e3
 subst e0 e1 e2 e3
 obtain ⟨n0, g0, p0, -⟩ := DataW.trod_string Tryz.underlying9 t0
 injection g0 with g0
 obtain ⟨a1, d1, l1, g1, q1, u1, s1, r1⟩ := open_strs t1
 obtain ⟨a2, d2, l2, g2, q2, u2, s2, r2⟩ := open_strs t2
 obtain ⟨a3, d3, l3, g3, q3, u3, s3, r3⟩ := open_rowsP (IsX w.heap.size w) wtX 10 Tryz.underlying34 (by kernel_rfl) (by omega) (fun n cs y hy _ hh => by obtain ⟨t, h1, h2, _⟩ := open_expr _ n cs y (Nat.le_refl _) hh; exact ⟨t, h1, h2⟩) t3
 subst g0 g1 g2 g3
 have b0 : Rows.uptoBulk z0.1 = n0.size + 1 := by rw [p0]; simp [Rows.uptoBulk]
 refine ⟨⟨n0, l1, l2, l3⟩, ⟨a1, d1, a2, d2, a3, d3, rfl, ⟨q1, u1⟩, r1, ⟨q2, u2⟩, r2, ⟨q3, u3⟩, r3⟩, ?_⟩
 rw [hx]
 simp only [wtNp, wtS, wtXs_sum, Rows.uptoBulk, Rows.uptoBulkAll, List.map_cons, List.map_nil]
 omega
structure Ept where
  var : ByteArray
  ty : ByteArray
  dir : Int
  keys : List ByteArray
  vals : List Ex
def IsEp (B : Nat) (w : World) (cs : List Value) (o : Ept) : Prop :=
  ∃ a_keys c_keys a_vals c_vals, cs = [.string o.var, .string o.ty, .int .i64 o.dir, .slice a_keys o.keys.length c_keys, .slice a_vals o.vals.length c_vals] ∧ in64 o.dir ∧ SlOk a_keys o.keys.length c_keys ∧ StrRow B w a_keys o.keys ∧ SlOk a_vals o.vals.length c_vals ∧ RowR (IsX B w) 10 B w a_vals o.vals
theorem IsEp.below {B B' : Nat} {w w' : World} {cs : List Value} {o : Ept} (h : IsEp B w cs o) (hb : Below B' w w') (hB : B ≤ B') : IsEp B w' cs o := by
 obtain ⟨a_keys, c_keys, a_vals, c_vals, h0, h1, h2, h3, h4, h5⟩ := h
 exact ⟨a_keys, c_keys, a_vals, c_vals, h0, h1, h2, h3.below hb hB, h4, h5.below hb hB (fun _ _ h => IsX.below hb hB _ _ h)⟩
theorem IsEp.mono {B B' : Nat} {w : World} {cs : List Value} {o : Ept} (h : IsEp B w cs o) (hB : B ≤ B') : IsEp B' w cs o := by
 obtain ⟨a_keys, c_keys, a_vals, c_vals, h0, h1, h2, h3, h4, h5⟩ := h
 exact ⟨a_keys, c_keys, a_vals, c_vals, h0, h1, h2, h3.mono hB, h4, h5.mono hB (fun _ _ h => IsX.mono hB _ _ h)⟩
def wtEp (o : Ept) : Nat := 1 + o.var.size + o.ty.size + wtS o.keys + wtXs o.vals
theorem open_Ep {H : Type} {enc : TypeId × Value → H} {w : World} {base : Nat} {spare : Nat → Bool} {held : Bool} {fuel : Nat} {cs : List Value} {x : DataW H × List MemPlace} (h : DataW.trod enc Tryz.prog w base spare held fuel 64 cs = some x) : ∃ o : Ept, IsEp w.heap.size w cs o ∧ wtEp o ≤ Rows.uptoBulk x.1 := by
 obtain ⟨xs, n, _, hx, hcl, hxl, hf⟩ := DataW.trod_struct Tryz.underlying64 h
 obtain ⟨c0, c1, c2, c3, c4, rfl⟩ := list5 (hcl.trans (by kernel_rfl))
 obtain ⟨y0, e0, t0⟩ := field_trod hxl hf 0 _ rfl (by kernel_rfl) c0 rfl
 obtain ⟨y1, e1, t1⟩ := field_trod hxl hf 1 _ rfl (by kernel_rfl) c1 rfl
 obtain ⟨y2, e2, t2⟩ := field_trod hxl hf 2 _ rfl (by kernel_rfl) c2 rfl
 obtain ⟨y3, e3, t3⟩ := field_trod hxl hf 3 _ rfl (by kernel_rfl) c3 rfl
 obtain ⟨y4, e4, t4⟩ := field_trod hxl hf 4 _ rfl (by kernel_rfl) c4 rfl
 obtain ⟨z0, z1, z2, z3, z4, rfl⟩ := list5 (show xs.length = 5 from hxl)
 simp at e0 e1 e2 e3 e4
 subst e0 e1 e2 e3 e4
 obtain ⟨n0, g0, p0, -⟩ := DataW.trod_string Tryz.underlying9 t0
 injection g0 with g0
 obtain ⟨n1, g1, p1, -⟩ := DataW.trod_string Tryz.underlying9 t1
 injection g1 with g1
 obtain ⟨n2, g2, -, w2⟩ := DataW.trod_int Tryz.underlying3 t2
 injection g2 with g2
 obtain ⟨a3, d3, l3, g3, q3, u3, s3, r3⟩ := open_strs t3
 obtain ⟨a4, d4, l4, g4, q4, u4, s4, r4⟩ := open_rowsP (IsX w.heap.size w) wtX 10 Tryz.underlying34 (by kernel_rfl) (by omega) (fun n cs y hy _ hh => by obtain ⟨t, h1, h2, _⟩ := open_expr _ n cs y (Nat.le_refl _) hh; exact ⟨t, h1, h2⟩) t4
 subst g0 g1 g2 g3 g4
 have b0 : Rows.uptoBulk z0.1 = n0.size + 1 := by rw [p0]; simp [Rows.uptoBulk]
 have b1 : Rows.uptoBulk z1.1 = n1.size + 1 := by rw [p1]; simp [Rows.uptoBulk]
 refine ⟨⟨n0, n1, n2, l3, l4⟩, ⟨a3, d3, a4, d4, rfl, in64_of_wf w2, ⟨q3, u3⟩, r3, ⟨q4, u4⟩, r4⟩, ?_⟩
 rw [hx]
 simp only [wtEp, wtS, wtXs_sum, Rows.uptoBulk, Rows.uptoBulkAll, List.map_cons, List.map_nil]
 omega
structure Ptt where
  nodes : List Npt
  edges : List Ept
def IsPt (B : Nat) (w : World) (cs : List Value) (o : Ptt) : Prop :=
  ∃ a_nodes c_nodes a_edges c_edges, cs = [.slice a_nodes o.nodes.length c_nodes, .slice a_edges o.edges.length c_edges] ∧ SlOk a_nodes o.nodes.length c_nodes ∧ RowR (IsNp B w) 4 B w a_nodes o.nodes ∧ SlOk a_edges o.edges.length c_edges ∧ RowR (IsEp B w) 5 B w a_edges o.edges
theorem IsPt.below {B B' : Nat} {w w' : World} {cs : List Value} {o : Ptt} (h : IsPt B w cs o) (hb : Below B' w w') (hB : B ≤ B') : IsPt B w' cs o := by
 obtain ⟨a_nodes, c_nodes, a_edges, c_edges, h0, h1, h2, h3, h4⟩ := h
 exact ⟨a_nodes, c_nodes, a_edges, c_edges, h0, h1, h2.below hb hB (fun _ _ h => h.below hb hB), h3, h4.below hb hB (fun _ _ h => h.below hb hB)⟩
theorem IsPt.mono {B B' : Nat} {w : World} {cs : List Value} {o : Ptt} (h : IsPt B w cs o) (hB : B ≤ B') : IsPt B' w cs o := by
 obtain ⟨a_nodes, c_nodes, a_edges, c_edges, h0, h1, h2, h3, h4⟩ := h
 exact ⟨a_nodes, c_nodes, a_edges, c_edges, h0, h1, h2.mono hB (fun _ _ h => h.mono hB), h3, h4.mono hB (fun _ _ h => h.mono hB)⟩
def wtPt (o : Ptt) : Nat := 1 + (o.nodes.map wtNp).sum + (o.edges.map wtEp).sum
theorem list2 {α : Type} {cs : List α} (h : cs.length = 2) : ∃ c0 c1, cs = [c0, c1] := by
 match cs, h with
 | [c0, c1], _ => exact ⟨c0, c1, rfl⟩
theorem open_Pt {H : Type} {enc : TypeId × Value → H} {w : World} {base : Nat} {spare : Nat → Bool} {held : Bool} {fuel : Nat} {cs : List Value} {x : DataW H × List MemPlace} (h : DataW.trod enc Tryz.prog w base spare held fuel 60 cs = some x) : ∃ o : Ptt, IsPt w.heap.size w cs o ∧ wtPt o ≤ Rows.uptoBulk x.1 := by
 obtain ⟨xs, n, _, hx, hcl, hxl, hf⟩ := DataW.trod_struct Tryz.underlying60 h
 obtain ⟨c0, c1, rfl⟩ := list2 (hcl.trans (by kernel_rfl))
 obtain ⟨y0, e0, t0⟩ := field_trod hxl hf 0 _ rfl (by kernel_rfl) c0 rfl
 obtain ⟨y1, e1, t1⟩ := field_trod hxl hf 1 _ rfl (by kernel_rfl) c1 rfl
 obtain ⟨z0, z1, rfl⟩ := list2 (show xs.length = 2 from hxl)
 simp at e0 e1
 subst e0 e1
 obtain ⟨a0, d0, l0, g0, q0, u0, s0, r0⟩ := open_rowsP (IsNp w.heap.size w) wtNp 4 Tryz.underlying57 (by kernel_rfl) (by omega) (fun n cs y hy _ hh => open_Np hh) t0
 obtain ⟨a1, d1, l1, g1, q1, u1, s1, r1⟩ := open_rowsP (IsEp w.heap.size w) wtEp 5 Tryz.underlying58 (by kernel_rfl) (by omega) (fun n cs y hy _ hh => open_Ep hh) t1
 subst g0 g1
 refine ⟨⟨l0, l1⟩, ⟨a0, d0, a1, d1, rfl, ⟨q0, u0⟩, r0, ⟨q1, u1⟩, r1⟩, ?_⟩
 rw [hx]
 simp only [wtPt, wtS, wtXs_sum, Rows.uptoBulk, Rows.uptoBulkAll, List.map_cons, List.map_nil]
 omega
structure Itt where
  e : Ex
  nm : ByteArray
def IsIt (B : Nat) (w : World) (cs : List Value) (o : Itt) : Prop :=
  ∃ x_e, cs = x_e ++ [.string o.nm] ∧ IsX B w x_e o.e
theorem IsIt.below {B B' : Nat} {w w' : World} {cs : List Value} {o : Itt} (h : IsIt B w cs o) (hb : Below B' w w') (hB : B ≤ B') : IsIt B w' cs o := by
 obtain ⟨x_e, h0, h1⟩ := h
 exact ⟨x_e, h0, IsX.below hb hB _ _ h1⟩
theorem IsIt.mono {B B' : Nat} {w : World} {cs : List Value} {o : Itt} (h : IsIt B w cs o) (hB : B ≤ B') : IsIt B' w cs o := by
 obtain ⟨x_e, h0, h1⟩ := h
 exact ⟨x_e, h0, IsX.mono hB _ _ h1⟩
def wtIt (o : Itt) : Nat := 1 + wtX o.e + o.nm.size
theorem list11 {α : Type} {cs : List α} (h : cs.length = 11) : ∃ c0 c1 c2 c3 c4 c5 c6 c7 c8 c9 c10, cs = [c0, c1, c2, c3, c4, c5, c6, c7, c8, c9, c10] := by
 match cs, h with
 | [c0, c1, c2, c3, c4, c5, c6, c7, c8, c9, c10], _ => exact ⟨c0, c1, c2, c3, c4, c5, c6, c7, c8, c9, c10, rfl⟩
theorem Se177999 {P : Prop} (h : P := by
 first
 | (guard_hyp z177999a; obtain ⟨xs, n, _, hx, hcl, hxl, hf⟩ := DataW.trod_struct Tryz.underlying66 h)
 | (obtain ⟨xs, n, _, hx, hcl, hxl, hf⟩ := DataW.trod_struct Tryz.underlying68 h)
 obtain ⟨c0, c1, c2, c3, c4, c5, c6, c7, c8, c9, c10, rfl⟩ := list11 (hcl.trans (by kernel_rfl))
 obtain ⟨y0, e0, t0⟩ := field_trodN hxl hf 0 _ rfl (k := 10) (by kernel_rfl)
 obtain ⟨y1, e1, t1⟩ := field_trod hxl hf 1 _ rfl (by kernel_rfl) c10 rfl
 obtain ⟨z0, z1, rfl⟩ := list2 (show xs.length = 2 from hxl)
 simp at e0 e1
 subst e0 e1
 obtain ⟨v0, hv0, hw0, hl0⟩ := open_expr _ _ _ _ (Nat.le_refl _) t0
 first
 | (guard_hyp z177999a; obtain ⟨n1, g1, p1, -⟩ := DataW.trod_string Tryz.underlying9 t1)
 | (obtain ⟨n1, g1, -⟩ := DataW.trod_bool Tryz.underlying4 t1)
 injection g1 with g1
 subst g1
 first
 | (guard_hyp z177999a; have b1 : Rows.uptoBulk z1.1 = n1.size + 1 := by rw [p1]; simp [Rows.uptoBulk])
 | skip
 refine ⟨⟨v0, n1⟩, ⟨_, rfl, hv0⟩, ?_⟩
 rw [hx]
 first
 | (guard_hyp z177999a; simp only [wtIt, wtS, wtXs_sum, Rows.uptoBulk, Rows.uptoBulkAll, List.map_cons, List.map_nil])
 | (simp only [wtSo, wtS, wtXs_sum, Rows.uptoBulk, Rows.uptoBulkAll, List.map_cons, List.map_nil])
 omega) : P := h
theorem open_It {H : Type} {enc : TypeId × Value → H} {w : World} {base : Nat} {spare : Nat → Bool} {held : Bool} {fuel : Nat} {cs : List Value} {x : DataW H × List MemPlace} (h : DataW.trod enc Tryz.prog w base spare held fuel 66 cs = some x) : ∃ o : Itt, IsIt w.heap.size w cs o ∧ wtIt o ≤ Rows.uptoBulk x.1 := by
 have z177999a := trivial
 exact Se177999
structure Sot where
  e : Ex
  down : Bool
def IsSo (B : Nat) (w : World) (cs : List Value) (o : Sot) : Prop :=
  ∃ x_e, cs = x_e ++ [.bool o.down] ∧ IsX B w x_e o.e
theorem IsSo.below {B B' : Nat} {w w' : World} {cs : List Value} {o : Sot} (h : IsSo B w cs o) (hb : Below B' w w') (hB : B ≤ B') : IsSo B w' cs o := by
 obtain ⟨x_e, h0, h1⟩ := h
 exact ⟨x_e, h0, IsX.below hb hB _ _ h1⟩
theorem IsSo.mono {B B' : Nat} {w : World} {cs : List Value} {o : Sot} (h : IsSo B w cs o) (hB : B ≤ B') : IsSo B' w cs o := by
 obtain ⟨x_e, h0, h1⟩ := h
 exact ⟨x_e, h0, IsX.mono hB _ _ h1⟩
def wtSo (o : Sot) : Nat := 1 + wtX o.e
theorem open_So {H : Type} {enc : TypeId × Value → H} {w : World} {base : Nat} {spare : Nat → Bool} {held : Bool} {fuel : Nat} {cs : List Value} {x : DataW H × List MemPlace} (h : DataW.trod enc Tryz.prog w base spare held fuel 68 cs = some x) : ∃ o : Sot, IsSo w.heap.size w cs o ∧ wtSo o ≤ Rows.uptoBulk x.1 := Se177999
structure Sit where
  var : ByteArray
  key : ByteArray
  label : ByteArray
  e : Ex
def IsSi (B : Nat) (w : World) (cs : List Value) (o : Sit) : Prop :=
  ∃ x_e, cs = [.string o.var, .string o.key, .string o.label] ++ x_e ∧ IsX B w x_e o.e
theorem IsSi.below {B B' : Nat} {w w' : World} {cs : List Value} {o : Sit} (h : IsSi B w cs o) (hb : Below B' w w') (hB : B ≤ B') : IsSi B w' cs o := by
 obtain ⟨x_e, h0, h1⟩ := h
 exact ⟨x_e, h0, IsX.below hb hB _ _ h1⟩
theorem IsSi.mono {B B' : Nat} {w : World} {cs : List Value} {o : Sit} (h : IsSi B w cs o) (hB : B ≤ B') : IsSi B' w cs o := by
 obtain ⟨x_e, h0, h1⟩ := h
 exact ⟨x_e, h0, IsX.mono hB _ _ h1⟩
def wtSi (o : Sit) : Nat := 1 + o.var.size + o.key.size + o.label.size + wtX o.e
theorem list13 {α : Type} {cs : List α} (h : cs.length = 13) : ∃ c0 c1 c2 c3 c4 c5 c6 c7 c8 c9 c10 c11 c12, cs = [c0, c1, c2, c3, c4, c5, c6, c7, c8, c9, c10, c11, c12] := by
 match cs, h with
 | [c0, c1, c2, c3, c4, c5, c6, c7, c8, c9, c10, c11, c12], _ => exact ⟨c0, c1, c2, c3, c4, c5, c6, c7, c8, c9, c10, c11, c12, rfl⟩
theorem open_Si {H : Type} {enc : TypeId × Value → H} {w : World} {base : Nat} {spare : Nat → Bool} {held : Bool} {fuel : Nat} {cs : List Value} {x : DataW H × List MemPlace} (h : DataW.trod enc Tryz.prog w base spare held fuel 70 cs = some x) : ∃ o : Sit, IsSi w.heap.size w cs o ∧ wtSi o ≤ Rows.uptoBulk x.1 := by
 obtain ⟨xs, n, _, hx, hcl, hxl, hf⟩ := DataW.trod_struct Tryz.underlying70 h
 obtain ⟨c0, c1, c2, c3, c4, c5, c6, c7, c8, c9, c10, c11, c12, rfl⟩ := list13 (hcl.trans (by kernel_rfl))
 obtain ⟨y0, e0, t0⟩ := field_trod hxl hf 0 _ rfl (by kernel_rfl) c0 rfl
 obtain ⟨y1, e1, t1⟩ := field_trod hxl hf 1 _ rfl (by kernel_rfl) c1 rfl
 obtain ⟨y2, e2, t2⟩ := field_trod hxl hf 2 _ rfl (by kernel_rfl) c2 rfl
 obtain ⟨y3, e3, t3⟩ := field_trodN hxl hf 3 _ rfl (k := 10) (by kernel_rfl)
 obtain ⟨z0, z1, z2, z3, rfl⟩ := list4 (show xs.length = 4 from hxl)
 simp at e0 e1 e2 e3
 subst e0 e1 e2 e3
 obtain ⟨n0, g0, p0, -⟩ := DataW.trod_string Tryz.underlying9 t0
 injection g0 with g0
 obtain ⟨n1, g1, p1, -⟩ := DataW.trod_string Tryz.underlying9 t1
 injection g1 with g1
 obtain ⟨n2, g2, p2, -⟩ := DataW.trod_string Tryz.underlying9 t2
 injection g2 with g2
 obtain ⟨v3, hv3, hw3, hl3⟩ := open_expr _ _ _ _ (Nat.le_refl _) t3
 subst g0 g1 g2
 have b0 : Rows.uptoBulk z0.1 = n0.size + 1 := by rw [p0]; simp [Rows.uptoBulk]
 have b1 : Rows.uptoBulk z1.1 = n1.size + 1 := by rw [p1]; simp [Rows.uptoBulk]
 have b2 : Rows.uptoBulk z2.1 = n2.size + 1 := by rw [p2]; simp [Rows.uptoBulk]
 refine ⟨⟨n0, n1, n2, v3⟩, ⟨_, rfl, hv3⟩, ?_⟩
 rw [hx]
 simp only [wtSi, wtS, wtXs_sum, Rows.uptoBulk, Rows.uptoBulkAll, List.map_cons, List.map_nil]
 omega
structure Clt where
  kind : Int
  paths : List Ptt
  whr : List Ex
  e : Ex
  var : ByteArray
  items : List Itt
  uniq : Bool
  order : List Sot
  skip : List Ex
  limit : List Ex
  sets : List Sit
  vars : List ByteArray
  detach : Bool
def IsCl (B : Nat) (w : World) (cs : List Value) (o : Clt) : Prop :=
  ∃ a_paths c_paths a_whr c_whr x_e a_items c_items a_order c_order a_skip c_skip a_limit c_limit a_sets c_sets a_vars c_vars, cs = [.int .i64 o.kind, .slice a_paths o.paths.length c_paths, .slice a_whr o.whr.length c_whr] ++ (x_e ++ [.string o.var, .slice a_items o.items.length c_items, .bool o.uniq, .slice a_order o.order.length c_order, .slice a_skip o.skip.length c_skip, .slice a_limit o.limit.length c_limit, .slice a_sets o.sets.length c_sets, .slice a_vars o.vars.length c_vars, .bool o.detach]) ∧ in64 o.kind ∧ SlOk a_paths o.paths.length c_paths ∧ RowR (IsPt B w) 2 B w a_paths o.paths ∧ SlOk a_whr o.whr.length c_whr ∧ RowR (IsX B w) 10 B w a_whr o.whr ∧ IsX B w x_e o.e ∧ SlOk a_items o.items.length c_items ∧ RowR (IsIt B w) 11 B w a_items o.items ∧ SlOk a_order o.order.length c_order ∧ RowR (IsSo B w) 11 B w a_order o.order ∧ SlOk a_skip o.skip.length c_skip ∧ RowR (IsX B w) 10 B w a_skip o.skip ∧ SlOk a_limit o.limit.length c_limit ∧ RowR (IsX B w) 10 B w a_limit o.limit ∧ SlOk a_sets o.sets.length c_sets ∧ RowR (IsSi B w) 13 B w a_sets o.sets ∧ SlOk a_vars o.vars.length c_vars ∧ StrRow B w a_vars o.vars
theorem IsCl.below {B B' : Nat} {w w' : World} {cs : List Value} {o : Clt} (h : IsCl B w cs o) (hb : Below B' w w') (hB : B ≤ B') : IsCl B w' cs o := by
 obtain ⟨a_paths, c_paths, a_whr, c_whr, x_e, a_items, c_items, a_order, c_order, a_skip, c_skip, a_limit, c_limit, a_sets, c_sets, a_vars, c_vars, h0, h1, h2, h3, h4, h5, h6, h7, h8, h9, h10, h11, h12, h13, h14, h15, h16, h17, h18⟩ := h
 exact ⟨a_paths, c_paths, a_whr, c_whr, x_e, a_items, c_items, a_order, c_order, a_skip, c_skip, a_limit, c_limit, a_sets, c_sets, a_vars, c_vars, h0, h1, h2, h3.below hb hB (fun _ _ h => h.below hb hB), h4, h5.below hb hB (fun _ _ h => IsX.below hb hB _ _ h), IsX.below hb hB _ _ h6, h7, h8.below hb hB (fun _ _ h => h.below hb hB), h9, h10.below hb hB (fun _ _ h => h.below hb hB), h11, h12.below hb hB (fun _ _ h => IsX.below hb hB _ _ h), h13, h14.below hb hB (fun _ _ h => IsX.below hb hB _ _ h), h15, h16.below hb hB (fun _ _ h => h.below hb hB), h17, h18.below hb hB⟩
theorem IsCl.mono {B B' : Nat} {w : World} {cs : List Value} {o : Clt} (h : IsCl B w cs o) (hB : B ≤ B') : IsCl B' w cs o := by
 obtain ⟨a_paths, c_paths, a_whr, c_whr, x_e, a_items, c_items, a_order, c_order, a_skip, c_skip, a_limit, c_limit, a_sets, c_sets, a_vars, c_vars, h0, h1, h2, h3, h4, h5, h6, h7, h8, h9, h10, h11, h12, h13, h14, h15, h16, h17, h18⟩ := h
 exact ⟨a_paths, c_paths, a_whr, c_whr, x_e, a_items, c_items, a_order, c_order, a_skip, c_skip, a_limit, c_limit, a_sets, c_sets, a_vars, c_vars, h0, h1, h2, h3.mono hB (fun _ _ h => h.mono hB), h4, h5.mono hB (fun _ _ h => IsX.mono hB _ _ h), IsX.mono hB _ _ h6, h7, h8.mono hB (fun _ _ h => h.mono hB), h9, h10.mono hB (fun _ _ h => h.mono hB), h11, h12.mono hB (fun _ _ h => IsX.mono hB _ _ h), h13, h14.mono hB (fun _ _ h => IsX.mono hB _ _ h), h15, h16.mono hB (fun _ _ h => h.mono hB), h17, h18.mono hB⟩
def wtCl (o : Clt) : Nat := 1 + (o.paths.map wtPt).sum + wtXs o.whr + wtX o.e + o.var.size + (o.items.map wtIt).sum + (o.order.map wtSo).sum + wtXs o.skip + wtXs o.limit + (o.sets.map wtSi).sum + wtS o.vars
theorem list22 {α : Type} {cs : List α} (h : cs.length = 22) : ∃ c0 c1 c2 c3 c4 c5 c6 c7 c8 c9 c10 c11 c12 c13 c14 c15 c16 c17 c18 c19 c20 c21, cs = [c0, c1, c2, c3, c4, c5, c6, c7, c8, c9, c10, c11, c12, c13, c14, c15, c16, c17, c18, c19, c20, c21] := by
 match cs, h with
 | [c0, c1, c2, c3, c4, c5, c6, c7, c8, c9, c10, c11, c12, c13, c14, c15, c16, c17, c18, c19, c20, c21], _ => exact ⟨c0, c1, c2, c3, c4, c5, c6, c7, c8, c9, c10, c11, c12, c13, c14, c15, c16, c17, c18, c19, c20, c21, rfl⟩
theorem open_Cl {H : Type} {enc : TypeId × Value → H} {w : World} {base : Nat} {spare : Nat → Bool} {held : Bool} {fuel : Nat} {cs : List Value} {x : DataW H × List MemPlace} (h : DataW.trod enc Tryz.prog w base spare held fuel 42 cs = some x) : ∃ o : Clt, IsCl w.heap.size w cs o ∧ wtCl o ≤ Rows.uptoBulk x.1 := by
 obtain ⟨xs, n, _, hx, hcl, hxl, hf⟩ := DataW.trod_struct Tryz.underlying42 h
 obtain ⟨c0, c1, c2, c3, c4, c5, c6, c7, c8, c9, c10, c11, c12, c13, c14, c15, c16, c17, c18, c19, c20, c21, rfl⟩ := list22 (hcl.trans (by kernel_rfl))
 obtain ⟨y0, e0, t0⟩ := field_trod hxl hf 0 _ rfl (by kernel_rfl) c0 rfl
 obtain ⟨y1, e1, t1⟩ := field_trod hxl hf 1 _ rfl (by kernel_rfl) c1 rfl
 obtain ⟨y2, e2, t2⟩ := field_trod hxl hf 2 _ rfl (by kernel_rfl) c2 rfl
 obtain ⟨y3, e3, t3⟩ := field_trodN hxl hf 3 _ rfl (k := 10) (by kernel_rfl)
 obtain ⟨y4, e4, t4⟩ := field_trod hxl hf 4 _ rfl (by kernel_rfl) c13 rfl
 obtain ⟨y5, e5, t5⟩ := field_trod hxl hf 5 _ rfl (by kernel_rfl) c14 rfl
 obtain ⟨y6, e6, t6⟩ := field_trod hxl hf 6 _ rfl (by kernel_rfl) c15 rfl
 obtain ⟨y7, e7, t7⟩ := field_trod hxl hf 7 _ rfl (by kernel_rfl) c16 rfl
 obtain ⟨y8, e8, t8⟩ := field_trod hxl hf 8 _ rfl (by kernel_rfl) c17 rfl
 obtain ⟨y9, e9, t9⟩ := field_trod hxl hf 9 _ rfl (by kernel_rfl) c18 rfl
 obtain ⟨y10, e10, t10⟩ := field_trod hxl hf 10 _ rfl (by kernel_rfl) c19 rfl
 obtain ⟨y11, e11, t11⟩ := field_trod hxl hf 11 _ rfl (by kernel_rfl) c20 rfl
 obtain ⟨y12, e12, t12⟩ := field_trod hxl hf 12 _ rfl (by kernel_rfl) c21 rfl
 obtain ⟨z0, z1, z2, z3, z4, z5, z6, z7, z8, z9, z10, z11, z12, rfl⟩ := list13 (show xs.length = 13 from hxl)
 simp at e0 e1 e2 e3 e4 e5 e6 e7 e8 e9 e10 e11 e12
 subst e0 e1 e2 e3 e4 e5 e6 e7 e8 e9 e10 e11 e12
 obtain ⟨n0, g0, -, w0⟩ := DataW.trod_int Tryz.underlying3 t0
 injection g0 with g0
 obtain ⟨a1, d1, l1, g1, q1, u1, s1, r1⟩ := open_rowsP (IsPt w.heap.size w) wtPt 2 Tryz.underlying37 (by kernel_rfl) (by omega) (fun n cs y hy _ hh => open_Pt hh) t1
 obtain ⟨a2, d2, l2, g2, q2, u2, s2, r2⟩ := open_rowsP (IsX w.heap.size w) wtX 10 Tryz.underlying34 (by kernel_rfl) (by omega) (fun n cs y hy _ hh => by obtain ⟨t, h1, h2, _⟩ := open_expr _ n cs y (Nat.le_refl _) hh; exact ⟨t, h1, h2⟩) t2
 obtain ⟨v3, hv3, hw3, hl3⟩ := open_expr _ _ _ _ (Nat.le_refl _) t3
 obtain ⟨n4, g4, p4, -⟩ := DataW.trod_string Tryz.underlying9 t4
 injection g4 with g4
 obtain ⟨a5, d5, l5, g5, q5, u5, s5, r5⟩ := open_rowsP (IsIt w.heap.size w) wtIt 11 Tryz.underlying38 (by kernel_rfl) (by omega) (fun n cs y hy _ hh => open_It hh) t5
 obtain ⟨n6, g6, -⟩ := DataW.trod_bool Tryz.underlying4 t6
 injection g6 with g6
 obtain ⟨a7, d7, l7, g7, q7, u7, s7, r7⟩ := open_rowsP (IsSo w.heap.size w) wtSo 11 Tryz.underlying39 (by kernel_rfl) (by omega) (fun n cs y hy _ hh => open_So hh) t7
 obtain ⟨a8, d8, l8, g8, q8, u8, s8, r8⟩ := open_rowsP (IsX w.heap.size w) wtX 10 Tryz.underlying34 (by kernel_rfl) (by omega) (fun n cs y hy _ hh => by obtain ⟨t, h1, h2, _⟩ := open_expr _ n cs y (Nat.le_refl _) hh; exact ⟨t, h1, h2⟩) t8
 obtain ⟨a9, d9, l9, g9, q9, u9, s9, r9⟩ := open_rowsP (IsX w.heap.size w) wtX 10 Tryz.underlying34 (by kernel_rfl) (by omega) (fun n cs y hy _ hh => by obtain ⟨t, h1, h2, _⟩ := open_expr _ n cs y (Nat.le_refl _) hh; exact ⟨t, h1, h2⟩) t9
 obtain ⟨a10, d10, l10, g10, q10, u10, s10, r10⟩ := open_rowsP (IsSi w.heap.size w) wtSi 13 Tryz.underlying40 (by kernel_rfl) (by omega) (fun n cs y hy _ hh => open_Si hh) t10
 obtain ⟨a11, d11, l11, g11, q11, u11, s11, r11⟩ := open_strs t11
 obtain ⟨n12, g12, -⟩ := DataW.trod_bool Tryz.underlying4 t12
 injection g12 with g12
 subst g0 g1 g2 g4 g5 g6 g7 g8 g9 g10 g11 g12
 have b4 : Rows.uptoBulk z4.1 = n4.size + 1 := by rw [p4]; simp [Rows.uptoBulk]
 refine ⟨⟨n0, l1, l2, v3, n4, l5, n6, l7, l8, l9, l10, l11, n12⟩, ⟨a1, d1, a2, d2, _, a5, d5, a7, d7, a8, d8, a9, d9, a10, d10, a11, d11, rfl, in64_of_wf w0, ⟨q1, u1⟩, r1, ⟨q2, u2⟩, r2, hv3, ⟨q5, u5⟩, r5, ⟨q7, u7⟩, r7, ⟨q8, u8⟩, r8, ⟨q9, u9⟩, r9, ⟨q10, u10⟩, r10, ⟨q11, u11⟩, r11⟩, ?_⟩
 rw [hx]
 simp only [wtCl, wtS, wtXs_sum, Rows.uptoBulk, Rows.uptoBulkAll, List.map_cons, List.map_nil]
 omega
structure Smt where
  clauses : List Clt
def IsSm (B : Nat) (w : World) (cs : List Value) (o : Smt) : Prop :=
  ∃ a_clauses c_clauses, cs = [.slice a_clauses o.clauses.length c_clauses] ∧ SlOk a_clauses o.clauses.length c_clauses ∧ RowR (IsCl B w) 22 B w a_clauses o.clauses
theorem IsSm.below {B B' : Nat} {w w' : World} {cs : List Value} {o : Smt} (h : IsSm B w cs o) (hb : Below B' w w') (hB : B ≤ B') : IsSm B w' cs o := by
 obtain ⟨a_clauses, c_clauses, h0, h1, h2⟩ := h
 exact ⟨a_clauses, c_clauses, h0, h1, h2.below hb hB (fun _ _ h => h.below hb hB)⟩
theorem IsSm.mono {B B' : Nat} {w : World} {cs : List Value} {o : Smt} (h : IsSm B w cs o) (hB : B ≤ B') : IsSm B' w cs o := by
 obtain ⟨a_clauses, c_clauses, h0, h1, h2⟩ := h
 exact ⟨a_clauses, c_clauses, h0, h1, h2.mono hB (fun _ _ h => h.mono hB)⟩
def wtSm (o : Smt) : Nat := 1 + (o.clauses.map wtCl).sum
theorem list1 {α : Type} {cs : List α} (h : cs.length = 1) : ∃ c0, cs = [c0] := by
 match cs, h with
 | [c0], _ => exact ⟨c0, rfl⟩
theorem open_Sm {H : Type} {enc : TypeId × Value → H} {w : World} {base : Nat} {spare : Nat → Bool} {held : Bool} {fuel : Nat} {cs : List Value} {x : DataW H × List MemPlace} (h : DataW.trod enc Tryz.prog w base spare held fuel 24 cs = some x) : ∃ o : Smt, IsSm w.heap.size w cs o ∧ wtSm o ≤ Rows.uptoBulk x.1 := by
 obtain ⟨xs, n, _, hx, hcl, hxl, hf⟩ := DataW.trod_struct Tryz.underlying24 h
 obtain ⟨c0, rfl⟩ := list1 (hcl.trans (by kernel_rfl))
 obtain ⟨y0, e0, t0⟩ := field_trod hxl hf 0 _ rfl (by kernel_rfl) c0 rfl
 obtain ⟨z0, rfl⟩ := list1 (show xs.length = 1 from hxl)
 simp at e0
 subst e0
 obtain ⟨a0, d0, l0, g0, q0, u0, s0, r0⟩ := open_rowsP (IsCl w.heap.size w) wtCl 22 Tryz.underlying22 (by kernel_rfl) (by omega) (fun n cs y hy _ hh => open_Cl hh) t0
 subst g0
 refine ⟨⟨l0⟩, ⟨a0, d0, rfl, ⟨q0, u0⟩, r0⟩, ?_⟩
 rw [hx]
 simp only [wtSm, wtS, wtXs_sum, Rows.uptoBulk, Rows.uptoBulkAll, List.map_cons, List.map_nil]
 omega
end Go.Proofs.YtndhpdclpgemfaaGreat

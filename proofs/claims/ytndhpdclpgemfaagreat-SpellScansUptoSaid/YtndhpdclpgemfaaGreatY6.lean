/- Parts X2, X3, X4 of this seat (pruned, scripts that are alike kept once as default arguments: q1, q2, ..). Conditions: each says its own. -/
import Derived.Test.YtndhpdclpgemfaaGreatY5
namespace Go.Proofs.YtndhpdclpgemfaaGreat
open Go.RowKit Go.Deep Go.ChangeShapes Go.WideShapes
set_option linter.unusedVariables false
set_option linter.unusedSimpArgs false
set_option maxRecDepth 100000
structure Npt where
  var : ByteArray
  labels : List ByteArray
  keys : List ByteArray
  vals : List Ex
def IsNp (B : Nat) (w : World) (cs : List Value) (o : Npt) : Prop :=
  ∃ a_labels c_labels a_keys c_keys a_vals c_vals, cs = [.string o.var, .slice a_labels o.labels.length c_labels, .slice a_keys o.keys.length c_keys, .slice a_vals o.vals.length c_vals] ∧ SlOk a_labels o.labels.length c_labels ∧ StrRow B w a_labels o.labels ∧ SlOk a_keys o.keys.length c_keys ∧ StrRow B w a_keys o.keys ∧ SlOk a_vals o.vals.length c_vals ∧ RowR (IsX B w) 10 B w a_vals o.vals
theorem IsNp.below {B B' : Nat} {w w' : World} {cs : List Value} {o : Npt} (h : IsNp B w cs o) (hb : Below B' w w') (hB : B ≤ B') : IsNp B w' cs o := by
 obtain ⟨a_labels, c_labels, a_keys, c_keys, a_vals, c_vals, h0, h1, h2, h3, h4, h5, h6⟩ := h
 exact ⟨a_labels, c_labels, a_keys, c_keys, a_vals, c_vals, h0, h1, h2.below hb hB, h3, h4.below hb hB, h5, h6.below hb hB (fun _ _ h => IsX.below hb hB _ _ h)⟩
theorem IsNp.mono {B B' : Nat} {w : World} {cs : List Value} {o : Npt} (h : IsNp B w cs o) (hB : B ≤ B') : IsNp B' w cs o := by
 obtain ⟨a_labels, c_labels, a_keys, c_keys, a_vals, c_vals, h0, h1, h2, h3, h4, h5, h6⟩ := h
 exact ⟨a_labels, c_labels, a_keys, c_keys, a_vals, c_vals, h0, h1, h2.mono hB, h3, h4.mono hB, h5, h6.mono hB (fun _ _ h => IsX.mono hB _ _ h)⟩
def wtNp (o : Npt) : Nat := 1 + o.var.size + wtS o.labels + wtS o.keys + wtXs o.vals
structure Ept where
  var : ByteArray
  ty : ByteArray
  dir : Int
  keys : List ByteArray
  vals : List Ex
def IsEp (B : Nat) (w : World) (cs : List Value) (o : Ept) : Prop :=
  ∃ a_keys c_keys a_vals c_vals, cs = [.string o.var, .string o.ty, .int .i64 o.dir, .slice a_keys o.keys.length c_keys, .slice a_vals o.vals.length c_vals] ∧ in64 o.dir ∧ SlOk a_keys o.keys.length c_keys ∧ StrRow B w a_keys o.keys ∧ SlOk a_vals o.vals.length c_vals ∧ RowR (IsX B w) 10 B w a_vals o.vals
theorem IsEp.below {B B' : Nat} {w w' : World} {cs : List Value} {o : Ept} (h : IsEp B w cs o) (hb : Below B' w w') (hB : B ≤ B') : IsEp B w' cs o := by
 obtain ⟨a_keys, c_keys, a_vals, c_vals, h0, h1, h2, h3, h4, h5⟩ := h
 exact ⟨a_keys, c_keys, a_vals, c_vals, h0, h1, h2, h3.below hb hB, h4, h5.below hb hB (fun _ _ h => IsX.below hb hB _ _ h)⟩
theorem IsEp.mono {B B' : Nat} {w : World} {cs : List Value} {o : Ept} (h : IsEp B w cs o) (hB : B ≤ B') : IsEp B' w cs o := by
 obtain ⟨a_keys, c_keys, a_vals, c_vals, h0, h1, h2, h3, h4, h5⟩ := h
 exact ⟨a_keys, c_keys, a_vals, c_vals, h0, h1, h2, h3.mono hB, h4, h5.mono hB (fun _ _ h => IsX.mono hB _ _ h)⟩
def wtEp (o : Ept) : Nat := 1 + o.var.size + o.ty.size + wtS o.keys + wtXs o.vals
structure Ptt where
  nodes : List Npt
  edges : List Ept
def IsPt (B : Nat) (w : World) (cs : List Value) (o : Ptt) : Prop :=
  ∃ a_nodes c_nodes a_edges c_edges, cs = [.slice a_nodes o.nodes.length c_nodes, .slice a_edges o.edges.length c_edges] ∧ SlOk a_nodes o.nodes.length c_nodes ∧ RowR (IsNp B w) 4 B w a_nodes o.nodes ∧ SlOk a_edges o.edges.length c_edges ∧ RowR (IsEp B w) 5 B w a_edges o.edges
theorem IsPt.below {B B' : Nat} {w w' : World} {cs : List Value} {o : Ptt} (h : IsPt B w cs o) (hb : Below B' w w') (hB : B ≤ B') : IsPt B w' cs o := by
 obtain ⟨a_nodes, c_nodes, a_edges, c_edges, h0, h1, h2, h3, h4⟩ := h
 exact ⟨a_nodes, c_nodes, a_edges, c_edges, h0, h1, h2.below hb hB (fun _ _ h => h.below hb hB), h3, h4.below hb hB (fun _ _ h => h.below hb hB)⟩
theorem IsPt.mono {B B' : Nat} {w : World} {cs : List Value} {o : Ptt} (h : IsPt B w cs o) (hB : B ≤ B') : IsPt B' w cs o := by
 obtain ⟨a_nodes, c_nodes, a_edges, c_edges, h0, h1, h2, h3, h4⟩ := h
 exact ⟨a_nodes, c_nodes, a_edges, c_edges, h0, h1, h2.mono hB (fun _ _ h => h.mono hB), h3, h4.mono hB (fun _ _ h => h.mono hB)⟩
def wtPt (o : Ptt) : Nat := 1 + (o.nodes.map wtNp).sum + (o.edges.map wtEp).sum
theorem list2 {α : Type} {cs : List α} (h : cs.length = 2) : ∃ c0 c1, cs = [c0, c1] := by
 match cs, h with
 | [c0, c1], _ => exact ⟨c0, c1, rfl⟩
structure Itt where
  e : Ex
  nm : ByteArray
def IsIt (B : Nat) (w : World) (cs : List Value) (o : Itt) : Prop :=
  ∃ x_e, cs = x_e ++ [.string o.nm] ∧ IsX B w x_e o.e
theorem IsIt.below {B B' : Nat} {w w' : World} {cs : List Value} {o : Itt} (h : IsIt B w cs o) (hb : Below B' w w') (hB : B ≤ B') : IsIt B w' cs o := by
 obtain ⟨x_e, h0, h1⟩ := h
 exact ⟨x_e, h0, IsX.below hb hB _ _ h1⟩
theorem IsIt.mono {B B' : Nat} {w : World} {cs : List Value} {o : Itt} (h : IsIt B w cs o) (hB : B ≤ B') : IsIt B' w cs o := by
 obtain ⟨x_e, h0, h1⟩ := h
 exact ⟨x_e, h0, IsX.mono hB _ _ h1⟩
def wtIt (o : Itt) : Nat := 1 + wtX o.e + o.nm.size
structure Sot where
  e : Ex
  down : Bool
def IsSo (B : Nat) (w : World) (cs : List Value) (o : Sot) : Prop :=
  ∃ x_e, cs = x_e ++ [.bool o.down] ∧ IsX B w x_e o.e
theorem IsSo.below {B B' : Nat} {w w' : World} {cs : List Value} {o : Sot} (h : IsSo B w cs o) (hb : Below B' w w') (hB : B ≤ B') : IsSo B w' cs o := by
 obtain ⟨x_e, h0, h1⟩ := h
 exact ⟨x_e, h0, IsX.below hb hB _ _ h1⟩
theorem IsSo.mono {B B' : Nat} {w : World} {cs : List Value} {o : Sot} (h : IsSo B w cs o) (hB : B ≤ B') : IsSo B' w cs o := by
 obtain ⟨x_e, h0, h1⟩ := h
 exact ⟨x_e, h0, IsX.mono hB _ _ h1⟩
def wtSo (o : Sot) : Nat := 1 + wtX o.e
structure Sit where
  var : ByteArray
  key : ByteArray
  label : ByteArray
  e : Ex
def IsSi (B : Nat) (w : World) (cs : List Value) (o : Sit) : Prop :=
  ∃ x_e, cs = [.string o.var, .string o.key, .string o.label] ++ x_e ∧ IsX B w x_e o.e
theorem IsSi.below {B B' : Nat} {w w' : World} {cs : List Value} {o : Sit} (h : IsSi B w cs o) (hb : Below B' w w') (hB : B ≤ B') : IsSi B w' cs o := by
 obtain ⟨x_e, h0, h1⟩ := h
 exact ⟨x_e, h0, IsX.below hb hB _ _ h1⟩
theorem IsSi.mono {B B' : Nat} {w : World} {cs : List Value} {o : Sit} (h : IsSi B w cs o) (hB : B ≤ B') : IsSi B' w cs o := by
 obtain ⟨x_e, h0, h1⟩ := h
 exact ⟨x_e, h0, IsX.mono hB _ _ h1⟩
def wtSi (o : Sit) : Nat := 1 + o.var.size + o.key.size + o.label.size + wtX o.e
structure Clt where
  kind : Int
  paths : List Ptt
  whr : List Ex
  e : Ex
  var : ByteArray
  items : List Itt
  uniq : Bool
  order : List Sot
  skip : List Ex
  limit : List Ex
  sets : List Sit
  vars : List ByteArray
  detach : Bool
def IsCl (B : Nat) (w : World) (cs : List Value) (o : Clt) : Prop :=
  ∃ a_paths c_paths a_whr c_whr x_e a_items c_items a_order c_order a_skip c_skip a_limit c_limit a_sets c_sets a_vars c_vars, cs = [.int .i64 o.kind, .slice a_paths o.paths.length c_paths, .slice a_whr o.whr.length c_whr] ++ (x_e ++ [.string o.var, .slice a_items o.items.length c_items, .bool o.uniq, .slice a_order o.order.length c_order, .slice a_skip o.skip.length c_skip, .slice a_limit o.limit.length c_limit, .slice a_sets o.sets.length c_sets, .slice a_vars o.vars.length c_vars, .bool o.detach]) ∧ in64 o.kind ∧ SlOk a_paths o.paths.length c_paths ∧ RowR (IsPt B w) 2 B w a_paths o.paths ∧ SlOk a_whr o.whr.length c_whr ∧ RowR (IsX B w) 10 B w a_whr o.whr ∧ IsX B w x_e o.e ∧ SlOk a_items o.items.length c_items ∧ RowR (IsIt B w) 11 B w a_items o.items ∧ SlOk a_order o.order.length c_order ∧ RowR (IsSo B w) 11 B w a_order o.order ∧ SlOk a_skip o.skip.length c_skip ∧ RowR (IsX B w) 10 B w a_skip o.skip ∧ SlOk a_limit o.limit.length c_limit ∧ RowR (IsX B w) 10 B w a_limit o.limit ∧ SlOk a_sets o.sets.length c_sets ∧ RowR (IsSi B w) 13 B w a_sets o.sets ∧ SlOk a_vars o.vars.length c_vars ∧ StrRow B w a_vars o.vars
theorem IsCl.below {B B' : Nat} {w w' : World} {cs : List Value} {o : Clt} (h : IsCl B w cs o) (hb : Below B' w w') (hB : B ≤ B') : IsCl B w' cs o := by
 obtain ⟨a_paths, c_paths, a_whr, c_whr, x_e, a_items, c_items, a_order, c_order, a_skip, c_skip, a_limit, c_limit, a_sets, c_sets, a_vars, c_vars, h0, h1, h2, h3, h4, h5, h6, h7, h8, h9, h10, h11, h12, h13, h14, h15, h16, h17, h18⟩ := h
 exact ⟨a_paths, c_paths, a_whr, c_whr, x_e, a_items, c_items, a_order, c_order, a_skip, c_skip, a_limit, c_limit, a_sets, c_sets, a_vars, c_vars, h0, h1, h2, h3.below hb hB (fun _ _ h => h.below hb hB), h4, h5.below hb hB (fun _ _ h => IsX.below hb hB _ _ h), IsX.below hb hB _ _ h6, h7, h8.below hb hB (fun _ _ h => h.below hb hB), h9, h10.below hb hB (fun _ _ h => h.below hb hB), h11, h12.below hb hB (fun _ _ h => IsX.below hb hB _ _ h), h13, h14.below hb hB (fun _ _ h => IsX.below hb hB _ _ h), h15, h16.below hb hB (fun _ _ h => h.below hb hB), h17, h18.below hb hB⟩
theorem IsCl.mono {B B' : Nat} {w : World} {cs : List Value} {o : Clt} (h : IsCl B w cs o) (hB : B ≤ B') : IsCl B' w cs o := by
 obtain ⟨a_paths, c_paths, a_whr, c_whr, x_e, a_items, c_items, a_order, c_order, a_skip, c_skip, a_limit, c_limit, a_sets, c_sets, a_vars, c_vars, h0, h1, h2, h3, h4, h5, h6, h7, h8, h9, h10, h11, h12, h13, h14, h15, h16, h17, h18⟩ := h
 exact ⟨a_paths, c_paths, a_whr, c_whr, x_e, a_items, c_items, a_order, c_order, a_skip, c_skip, a_limit, c_limit, a_sets, c_sets, a_vars, c_vars, h0, h1, h2, h3.mono hB (fun _ _ h => h.mono hB), h4, h5.mono hB (fun _ _ h => IsX.mono hB _ _ h), IsX.mono hB _ _ h6, h7, h8.mono hB (fun _ _ h => h.mono hB), h9, h10.mono hB (fun _ _ h => h.mono hB), h11, h12.mono hB (fun _ _ h => IsX.mono hB _ _ h), h13, h14.mono hB (fun _ _ h => IsX.mono hB _ _ h), h15, h16.mono hB (fun _ _ h => h.mono hB), h17, h18.mono hB⟩
def wtCl (o : Clt) : Nat := 1 + (o.paths.map wtPt).sum + wtXs o.whr + wtX o.e + o.var.size + (o.items.map wtIt).sum + (o.order.map wtSo).sum + wtXs o.skip + wtXs o.limit + (o.sets.map wtSi).sum + wtS o.vars
structure Smt where
  clauses : List Clt
def IsSm (B : Nat) (w : World) (cs : List Value) (o : Smt) : Prop :=
  ∃ a_clauses c_clauses, cs = [.slice a_clauses o.clauses.length c_clauses] ∧ SlOk a_clauses o.clauses.length c_clauses ∧ RowR (IsCl B w) 22 B w a_clauses o.clauses
theorem IsSm.below {B B' : Nat} {w w' : World} {cs : List Value} {o : Smt} (h : IsSm B w cs o) (hb : Below B' w w') (hB : B ≤ B') : IsSm B w' cs o := by
 obtain ⟨a_clauses, c_clauses, h0, h1, h2⟩ := h
 exact ⟨a_clauses, c_clauses, h0, h1, h2.below hb hB (fun _ _ h => h.below hb hB)⟩
theorem IsSm.mono {B B' : Nat} {w : World} {cs : List Value} {o : Smt} (h : IsSm B w cs o) (hB : B ≤ B') : IsSm B' w cs o := by
 obtain ⟨a_clauses, c_clauses, h0, h1, h2⟩ := h
 exact ⟨a_clauses, c_clauses, h0, h1, h2.mono hB (fun _ _ h => h.mono hB)⟩
def wtSm (o : Smt) : Nat := 1 + (o.clauses.map wtCl).sum
end Go.Proofs.YtndhpdclpgemfaaGreat
namespace Go.Proofs.YtndhpdclpgemfaaGreat
open Go.RowKit
set_option linter.unusedSimpArgs false
set_option linter.unusedVariables false
set_option maxRecDepth 100000
def levelB (s : ByteArray) : Int :=
  if (s.toList == [79, 82]) = true then 1 else
  if (s.toList == [88, 79, 82]) = true then 2 else
  if (s.toList == [65, 78, 68]) = true then 3 else
  if (s.toList == [61]) = true then 5 else
  if (s.toList == [60, 62]) = true then 5 else
  if (s.toList == [60]) = true then 5 else
  if (s.toList == [60, 61]) = true then 5 else
  if (s.toList == [62]) = true then 5 else
  if (s.toList == [62, 61]) = true then 5 else
  if (s.toList == [73, 78]) = true then 5 else
  if (s.toList == [43]) = true then 6 else
  if (s.toList == [45]) = true then 6 else
  if (s.toList == [42]) = true then 7 else
  if (s.toList == [47]) = true then 7 else
  if (s.toList == [37]) = true then 7 else
  0
def aggB (s : ByteArray) : Bool := (s.toList == [99, 111, 117, 110, 116]) || (s.toList == [115, 117, 109]) || (s.toList == [109, 105, 110]) || (s.toList == [109, 97, 120]) || (s.toList == [99, 111, 108, 108, 101, 99, 116])
def keyB (s : ByteArray) : Bool := decide (1 ≤ s.size) && decide (s.size ≤ 64)
def closeB (op : Int) (nm : ByteArray) : Int :=
  if op = 10 then levelB nm else if op = 9 then 4 else if op = 11 then 5 else if op = 12 then 5 else if op = 8 then 8 else if op = 4 then 9 else if op = 7 then 9 else if op = 15 then 9 else 10
set_option maxHeartbeats 4000000 in
theorem rlevel_any (s : ByteArray) (w : World) : Calls Tryz.prog 89 #[.string s] w fun e w' => e = .returned (.int .i64 (levelB s)) ∧ w = w' := by
 obtain ⟨b0, h0⟩ : ∃ b, (s.toList == [79, 82]) = b := ⟨_, rfl⟩
 obtain ⟨b1, h1⟩ : ∃ b, (s.toList == [88, 79, 82]) = b := ⟨_, rfl⟩
 obtain ⟨b2, h2⟩ : ∃ b, (s.toList == [65, 78, 68]) = b := ⟨_, rfl⟩
 obtain ⟨b3, h3⟩ := nam ((s.toList == [61]))
 obtain ⟨b4, h4⟩ : ∃ b, (s.toList == [60, 62]) = b := ⟨_, rfl⟩
 obtain ⟨b5, h5⟩ := nam ((s.toList == [60]))
 obtain ⟨b6, h6⟩ : ∃ b, (s.toList == [60, 61]) = b := ⟨_, rfl⟩
 obtain ⟨b7, h7⟩ := nam ((s.toList == [62]))
 obtain ⟨b8, h8⟩ : ∃ b, (s.toList == [62, 61]) = b := ⟨_, rfl⟩
 obtain ⟨b9, h9⟩ : ∃ b, (s.toList == [73, 78]) = b := ⟨_, rfl⟩
 obtain ⟨b10, h10⟩ := nam ((s.toList == [43]))
 obtain ⟨b11, h11⟩ := nam ((s.toList == [45]))
 obtain ⟨b12, h12⟩ := nam ((s.toList == [42]))
 obtain ⟨b13, h13⟩ := nam ((s.toList == [47]))
 obtain ⟨b14, h14⟩ := nam ((s.toList == [37]))
 cases b0 with
 | true =>
  have hq : levelB s = 1 := by simp only [levelB, h0, if_true, if_false, Bool.false_eq_true]
  rw [hq]
  clear hq
  go_enter Tryz.func89, Tryz.ntmps89
  go_wp2_with fail
  go_ret
  exact ⟨rfl, rfl⟩
 | false =>
  cases b1 with
  | true =>
   have hq : levelB s = 2 := by simp only [levelB, h0, h1, if_true, if_false, Bool.false_eq_true]
   rw [hq]
   clear hq
   go_enter Tryz.func89, Tryz.ntmps89
   go_wp2_with fail
   go_ret
   exact ⟨rfl, rfl⟩
  | false =>
   cases b2 with
   | true =>
    have hq : levelB s = 3 := by simp only [levelB, h0, h1, h2, if_true, if_false, Bool.false_eq_true]
    rw [hq]
    clear hq
    go_enter Tryz.func89, Tryz.ntmps89
    go_wp2_with fail
    go_ret
    exact ⟨rfl, rfl⟩
   | false =>
    cases b3 with
    | true =>
     have hq : levelB s = 5 := by simp only [levelB, h0, h1, h2, h3, if_true, if_false, Bool.false_eq_true]
     rw [hq]
     clear hq
     go_enter Tryz.func89, Tryz.ntmps89
     go_wp2_with fail
     go_ret
     exact ⟨rfl, rfl⟩
    | false =>
     cases b4 with
     | true =>
      have hq : levelB s = 5 := by simp only [levelB, h0, h1, h2, h3, h4, if_true, if_false, Bool.false_eq_true]
      rw [hq]
      clear hq
      go_enter Tryz.func89, Tryz.ntmps89
      go_wp2_with fail
      go_ret
      exact ⟨rfl, rfl⟩
     | false =>
      cases b5 with
      | true =>
       have hq : levelB s = 5 := by simp only [levelB, h0, h1, h2, h3, h4, h5, if_true, if_false, Bool.false_eq_true]
       rw [hq]
       clear hq
       go_enter Tryz.func89, Tryz.ntmps89
       go_wp2_with fail
       go_ret
       exact ⟨rfl, rfl⟩
      | false =>
       cases b6 with
       | true =>
        have hq : levelB s = 5 := by simp only [levelB, h0, h1, h2, h3, h4, h5, h6, if_true, if_false, Bool.false_eq_true]
        rw [hq]
        clear hq
        go_enter Tryz.func89, Tryz.ntmps89
        go_wp2_with fail
        go_ret
        exact ⟨rfl, rfl⟩
       | false =>
        cases b7 with
        | true =>
         have hq : levelB s = 5 := by simp only [levelB, h0, h1, h2, h3, h4, h5, h6, h7, if_true, if_false, Bool.false_eq_true]
         rw [hq]
         clear hq
         go_enter Tryz.func89, Tryz.ntmps89
         go_wp2_with fail
         go_ret
         exact ⟨rfl, rfl⟩
        | false =>
         cases b8 with
         | true =>
          have hq : levelB s = 5 := by simp only [levelB, h0, h1, h2, h3, h4, h5, h6, h7, h8, if_true, if_false, Bool.false_eq_true]
          rw [hq]
          clear hq
          go_enter Tryz.func89, Tryz.ntmps89
          go_wp2_with fail
          go_ret
          exact ⟨rfl, rfl⟩
         | false =>
          cases b9 with
          | true =>
           have hq : levelB s = 5 := by simp only [levelB, h0, h1, h2, h3, h4, h5, h6, h7, h8, h9, if_true, if_false, Bool.false_eq_true]
           rw [hq]
           clear hq
           go_enter Tryz.func89, Tryz.ntmps89
           go_wp2_with fail
           go_ret
           exact ⟨rfl, rfl⟩
          | false =>
           cases b10 with
           | true =>
            have hq : levelB s = 6 := by simp only [levelB, h0, h1, h2, h3, h4, h5, h6, h7, h8, h9, h10, if_true, if_false, Bool.false_eq_true]
            rw [hq]
            clear hq
            go_enter Tryz.func89, Tryz.ntmps89
            go_wp2_with fail
            go_ret
            exact ⟨rfl, rfl⟩
           | false =>
            cases b11 with
            | true =>
             have hq : levelB s = 6 := by simp only [levelB, h0, h1, h2, h3, h4, h5, h6, h7, h8, h9, h10, h11, if_true, if_false, Bool.false_eq_true]
             rw [hq]
             clear hq
             go_enter Tryz.func89, Tryz.ntmps89
             go_wp2_with fail
             go_ret
             exact ⟨rfl, rfl⟩
            | false =>
             cases b12 with
             | true =>
              have hq : levelB s = 7 := by simp only [levelB, h0, h1, h2, h3, h4, h5, h6, h7, h8, h9, h10, h11, h12, if_true, if_false, Bool.false_eq_true]
              rw [hq]
              clear hq
              go_enter Tryz.func89, Tryz.ntmps89
              go_wp2_with fail
              go_ret
              exact ⟨rfl, rfl⟩
             | false =>
              cases b13 with
              | true =>
               have hq : levelB s = 7 := by simp only [levelB, h0, h1, h2, h3, h4, h5, h6, h7, h8, h9, h10, h11, h12, h13, if_true, if_false, Bool.false_eq_true]
               rw [hq]
               clear hq
               go_enter Tryz.func89, Tryz.ntmps89
               go_wp2_with fail
               go_ret
               exact ⟨rfl, rfl⟩
              | false =>
               cases b14 with
               | true =>
                have hq : levelB s = 7 := by simp only [levelB, h0, h1, h2, h3, h4, h5, h6, h7, h8, h9, h10, h11, h12, h13, h14, if_true, if_false, Bool.false_eq_true]
                rw [hq]
                clear hq
                go_enter Tryz.func89, Tryz.ntmps89
                go_wp2_with fail
                go_ret
                exact ⟨rfl, rfl⟩
               | false =>
                have hq : levelB s = 0 := by simp only [levelB, h0, h1, h2, h3, h4, h5, h6, h7, h8, h9, h10, h11, h12, h13, h14, if_true, if_false, Bool.false_eq_true]
                rw [hq]
                clear hq
                go_enter Tryz.func89, Tryz.ntmps89
                go_wp2_with fail
                go_ret
                exact ⟨rfl, rfl⟩
theorem rkey11_any (s : ByteArray) (w : World) (hs : s.size ≤ 1099511627776) : Calls Tryz.prog 103 #[.string s] w fun e w' => e = .returned (.bool (keyB s)) ∧ w = w' := by
 obtain ⟨n, hn⟩ := nam s.size
 obtain ⟨q, hq⟩ := nam (keyB s)
 rw [hq]
 have HQ := Lib.hid hq
 have HN := Lib.hid hn
 rw [hn] at hs
 clear hq
 by_cases h1 : 1 ≤ n
 ·have h1' : (1 : Int) ≤ n := by omega
  by_cases h2 : n ≤ 64
  ·have h2' : (n : Int) ≤ 64 := by omega
   have hqq : q = true := by rw [← HQ.out]; simp [keyB, HN.out, h1, h2]
   subst hqq
   go_enter Tryz.func103, Tryz.ntmps103
   go_wp2_with fail
   go_ret
   exact ⟨rfl, rfl⟩
  ·have h2' : ¬ (n : Int) ≤ 64 := by omega
   have hqq : q = false := by rw [← HQ.out]; simp [keyB, HN.out, h1, h2]
   subst hqq
   go_enter Tryz.func103, Tryz.ntmps103
   go_wp2_with fail
   go_ret
   exact ⟨rfl, rfl⟩
 ·have h1' : ¬ (1 : Int) ≤ n := by omega
  have hqq : q = false := by rw [← HQ.out]; simp [keyB, HN.out, h1]
  subst hqq
  go_enter Tryz.func103, Tryz.ntmps103
  go_wp2_with fail
  go_ret
  exact ⟨rfl, rfl⟩
theorem Sq28 {P : Prop} (h : P := by
 obtain ⟨b0, h0⟩ : ∃ b, (s.toList == [99, 111, 117, 110, 116]) = b := ⟨_, rfl⟩
 obtain ⟨b1, h1⟩ : ∃ b, (s.toList == [115, 117, 109]) = b := ⟨_, rfl⟩
 obtain ⟨b2, h2⟩ : ∃ b, (s.toList == [109, 105, 110]) = b := ⟨_, rfl⟩
 obtain ⟨b3, h3⟩ : ∃ b, (s.toList == [109, 97, 120]) = b := ⟨_, rfl⟩
 obtain ⟨b4, h4⟩ : ∃ b, (s.toList == [99, 111, 108, 108, 101, 99, 116]) = b := ⟨_, rfl⟩
 cases b0 with
 | true =>
  have hq : aggB s = true := by simp only [aggB, h0, Bool.true_or, Bool.or_true, Bool.false_or, Bool.or_false]
  rw [hq]
  clear hq
  first
  | (guard_hyp z28a; go_enter Tryz.func104, Tryz.ntmps104)
  | (go_enter Tryz.func122, Tryz.ntmps122)
  go_wp2_with fail
  go_ret
  exact ⟨rfl, rfl⟩
 | false =>
  cases b1 with
  | true =>
   have hq : aggB s = true := by simp only [aggB, h0, h1, Bool.true_or, Bool.or_true, Bool.false_or, Bool.or_false]
   rw [hq]
   clear hq
   first
   | (guard_hyp z28a; go_enter Tryz.func104, Tryz.ntmps104)
   | (go_enter Tryz.func122, Tryz.ntmps122)
   go_wp2_with fail
   go_ret
   exact ⟨rfl, rfl⟩
  | false =>
   cases b2 with
   | true =>
    have hq : aggB s = true := by simp only [aggB, h0, h1, h2, Bool.true_or, Bool.or_true, Bool.false_or, Bool.or_false]
    rw [hq]
    clear hq
    first
    | (guard_hyp z28a; go_enter Tryz.func104, Tryz.ntmps104)
    | (go_enter Tryz.func122, Tryz.ntmps122)
    go_wp2_with fail
    go_ret
    exact ⟨rfl, rfl⟩
   | false =>
    cases b3 with
    | true =>
     have hq : aggB s = true := by simp only [aggB, h0, h1, h2, h3, Bool.true_or, Bool.or_true, Bool.false_or, Bool.or_false]
     rw [hq]
     clear hq
     first
     | (guard_hyp z28a; go_enter Tryz.func104, Tryz.ntmps104)
     | (go_enter Tryz.func122, Tryz.ntmps122)
     go_wp2_with fail
     go_ret
     exact ⟨rfl, rfl⟩
    | false =>
     cases b4 with
     | true =>
      have hq : aggB s = true := by simp only [aggB, h0, h1, h2, h3, h4, Bool.true_or, Bool.or_true, Bool.false_or, Bool.or_false]
      rw [hq]
      clear hq
      first
      | (guard_hyp z28a; go_enter Tryz.func104, Tryz.ntmps104)
      | (go_enter Tryz.func122, Tryz.ntmps122)
      go_wp2_with fail
      go_ret
      exact ⟨rfl, rfl⟩
     | false =>
      have hq : aggB s = false := by simp only [aggB, h0, h1, h2, h3, h4, Bool.true_or, Bool.or_true, Bool.false_or, Bool.or_false]
      rw [hq]
      clear hq
      first
      | (guard_hyp z28a; go_enter Tryz.func104, Tryz.ntmps104)
      | (go_enter Tryz.func122, Tryz.ntmps122)
      go_wp2_with fail
      go_ret
      exact ⟨rfl, rfl⟩) : P := h
set_option maxHeartbeats 4000000 in
theorem ragg_any (s : ByteArray) (w : World) : Calls Tryz.prog 104 #[.string s] w fun e w' => e = .returned (.bool (aggB s)) ∧ w = w' := by
 have z28a := trivial
 exact Sq28
set_option maxRecDepth 100000 in
theorem Sq12 {P : Prop} (h : P := by
 subst ht
 obtain ⟨k, b, i, s, l, ks, la, lc, ka, kc, na, nc, xa, xc, rfl, rfl, -⟩ := hX.cells
 clear hX
 obtain ⟨W0, hW0⟩ : ∃ W0, w.alloc (.cells #[.int .i64 op, .string nm, .int .i64 k, .bool b, .int .i64 i, .string s, .slice la l.length lc, .slice ka ks.length kc, .slice na ns.length nc, .slice xa az.length xc] 36) = W0 := ⟨_, rfl⟩
 have hb0 : Below w.heap.size w W0 := by rw [← hW0]; exact (Below.refl _ _).alloc (Nat.le_refl _) _
 have hx0 : Block W0 w.heap.size [.int .i64 op, .string nm, .int .i64 k, .bool b, .int .i64 i, .string s, .slice la l.length lc, .slice ka ks.length kc, .slice na ns.length nc, .slice xa az.length xc] 36 := by rw [← hW0]; exact Block.new _ _ _
 have x0 := hx0.cell (i := 0) rfl
 have x1 := hx0.cell (i := 1) rfl
 rw [← hW0] at x0 x1
 have HB0 := Lib.hid hb0
 have HW0 := Lib.hid hW0
 clear hb0 hx0 hW0
 first
 | (guard_hyp z12a; show Calls Tryz.prog 178 #[.agg #[.int .i64 op, .string nm, .int .i64 k, .bool b, .int .i64 i, .string s, .slice la l.length lc, .slice ka ks.length kc, .slice na ns.length nc, .slice xa az.length xc]] w _)
 | (show Calls Tryz.prog 127 #[.agg #[.int .i64 op, .string nm, .int .i64 k, .bool b, .int .i64 i, .string s, .slice la l.length lc, .slice ka ks.length kc, .slice na ns.length nc, .slice xa az.length xc]] w _)
 obtain ⟨b0, h0⟩ := nam ((op == 10))
 obtain ⟨b1, h1⟩ := nam ((op == 9))
 obtain ⟨b2, h2⟩ := nam ((op == 11))
 obtain ⟨b3, h3⟩ := nam ((op == 12))
 obtain ⟨b4, h4⟩ := nam ((op == 8))
 obtain ⟨b5, h5⟩ := nam ((op == 4))
 obtain ⟨b6, h6⟩ := nam ((op == 7))
 obtain ⟨b7, h7⟩ := nam ((op == 15))
 have HC : ∀ q, (closeB op nm = q) → closeB op nm = q := fun _ h => h
 cases b0 with
 | true =>
  have h0' : op = 10 := by simpa using h0
  have hq : closeB op nm = levelB nm := by unfold closeB; rw [if_pos h0']
  rw [hq]
  clear hq HC h0'
  first
  | (guard_hyp z12a; go_enter Tryz.func178, Tryz.ntmps178)
  | (go_enter Tryz.func127, Tryz.ntmps127)
  go_wp2_with fail
  rw [HW0.out]
  first
  | (guard_hyp z12a; refine (slevel_any nm W0 hs).mono ?_)
  | (refine (rlevel_any nm W0).mono ?_)
  rintro e w1 ⟨rfl, hb1⟩
  first
  | (guard_hyp z12a; have HB1 := Lib.hid (below_step HB0.out rfl hb1))
  | (subst hb1)
  go_wp2_with fail
  go_ret
  first
  | (guard_hyp z12a; exact ⟨rfl, HB1.out⟩)
  | (exact ⟨rfl, HB0.out⟩)
 | false =>
  cases b1 with
  | true =>
   have h0' : ¬ op = 10 := by simpa using h0
   have h1' : op = 9 := by simpa using h1
   have hq : closeB op nm = 4 := by unfold closeB; rw [if_neg h0', if_pos h1']
   rw [hq]
   clear hq HC h0' h1'
   first
   | (guard_hyp z12a; go_enter Tryz.func178, Tryz.ntmps178)
   | (go_enter Tryz.func127, Tryz.ntmps127)
   go_wp2_with fail
   rw [HW0.out]
   go_ret
   exact ⟨rfl, HB0.out⟩
  | false =>
   cases b2 with
   | true =>
    have h0' : ¬ op = 10 := by simpa using h0
    have h1' : ¬ op = 9 := by simpa using h1
    have h2' : op = 11 := by simpa using h2
    have hq : closeB op nm = 5 := by unfold closeB; rw [if_neg h0', if_neg h1', if_pos h2']
    rw [hq]
    clear hq HC h0' h1' h2'
    first
    | (guard_hyp z12a; go_enter Tryz.func178, Tryz.ntmps178)
    | (go_enter Tryz.func127, Tryz.ntmps127)
    go_wp2_with fail
    rw [HW0.out]
    go_ret
    exact ⟨rfl, HB0.out⟩
   | false =>
    cases b3 with
    | true =>
     have h0' : ¬ op = 10 := by simpa using h0
     have h1' : ¬ op = 9 := by simpa using h1
     have h2' : ¬ op = 11 := by simpa using h2
     have h3' : op = 12 := by simpa using h3
     have hq : closeB op nm = 5 := by unfold closeB; rw [if_neg h0', if_neg h1', if_neg h2', if_pos h3']
     rw [hq]
     clear hq HC h0' h1' h2' h3'
     first
     | (guard_hyp z12a; go_enter Tryz.func178, Tryz.ntmps178)
     | (go_enter Tryz.func127, Tryz.ntmps127)
     go_wp2_with fail
     rw [HW0.out]
     go_ret
     exact ⟨rfl, HB0.out⟩
    | false =>
     cases b4 with
     | true =>
      have h0' : ¬ op = 10 := by simpa using h0
      have h1' : ¬ op = 9 := by simpa using h1
      have h2' : ¬ op = 11 := by simpa using h2
      have h3' : ¬ op = 12 := by simpa using h3
      have h4' : op = 8 := by simpa using h4
      have hq : closeB op nm = 8 := by unfold closeB; rw [if_neg h0', if_neg h1', if_neg h2', if_neg h3', if_pos h4']
      rw [hq]
      clear hq HC h0' h1' h2' h3' h4'
      first
      | (guard_hyp z12a; go_enter Tryz.func178, Tryz.ntmps178)
      | (go_enter Tryz.func127, Tryz.ntmps127)
      go_wp2_with fail
      rw [HW0.out]
      go_ret
      exact ⟨rfl, HB0.out⟩
     | false =>
      cases b5 with
      | true =>
       have h0' : ¬ op = 10 := by simpa using h0
       have h1' : ¬ op = 9 := by simpa using h1
       have h2' : ¬ op = 11 := by simpa using h2
       have h3' : ¬ op = 12 := by simpa using h3
       have h4' : ¬ op = 8 := by simpa using h4
       have h5' : op = 4 := by simpa using h5
       have hq : closeB op nm = 9 := by unfold closeB; rw [if_neg h0', if_neg h1', if_neg h2', if_neg h3', if_neg h4', if_pos h5']
       rw [hq]
       clear hq HC h0' h1' h2' h3' h4' h5'
       first
       | (guard_hyp z12a; go_enter Tryz.func178, Tryz.ntmps178)
       | (go_enter Tryz.func127, Tryz.ntmps127)
       go_wp2_with fail
       rw [HW0.out]
       go_ret
       exact ⟨rfl, HB0.out⟩
      | false =>
       cases b6 with
       | true =>
        have h0' : ¬ op = 10 := by simpa using h0
        have h1' : ¬ op = 9 := by simpa using h1
        have h2' : ¬ op = 11 := by simpa using h2
        have h3' : ¬ op = 12 := by simpa using h3
        have h4' : ¬ op = 8 := by simpa using h4
        have h5' : ¬ op = 4 := by simpa using h5
        have h6' : op = 7 := by simpa using h6
        have hq : closeB op nm = 9 := by unfold closeB; rw [if_neg h0', if_neg h1', if_neg h2', if_neg h3', if_neg h4', if_neg h5', if_pos h6']
        rw [hq]
        clear hq HC h0' h1' h2' h3' h4' h5' h6'
        first
        | (guard_hyp z12a; go_enter Tryz.func178, Tryz.ntmps178)
        | (go_enter Tryz.func127, Tryz.ntmps127)
        go_wp2_with fail
        rw [HW0.out]
        go_ret
        exact ⟨rfl, HB0.out⟩
       | false =>
        cases b7 with
        | true =>
         exact Sq92
        | false =>
         have z92a := trivial
         exact Sq92) : P := h
theorem Sq92 {P : Prop} (h : P := by
 have h0' : ¬ op = 10 := by simpa using h0
 have h1' : ¬ op = 9 := by simpa using h1
 have h2' : ¬ op = 11 := by simpa using h2
 have h3' : ¬ op = 12 := by simpa using h3
 have h4' : ¬ op = 8 := by simpa using h4
 have h5' : ¬ op = 4 := by simpa using h5
 have h6' : ¬ op = 7 := by simpa using h6
 first
 |(
  guard_hyp z92a
  have h7' : ¬ op = 15 := by simpa using h7
  have hq : closeB op nm = 10 := by unfold closeB; rw [if_neg h0', if_neg h1', if_neg h2', if_neg h3', if_neg h4', if_neg h5', if_neg h6', if_neg h7'])
 |(
  have h7' : op = 15 := by simpa using h7
  have hq : closeB op nm = 9 := by unfold closeB; rw [if_neg h0', if_neg h1', if_neg h2', if_neg h3', if_neg h4', if_neg h5', if_neg h6', if_pos h7'])
 rw [hq]
 clear hq HC h0' h1' h2' h3' h4' h5' h6' h7'
 first
 | (guard_hyp z12a; go_enter Tryz.func178, Tryz.ntmps178)
 | (go_enter Tryz.func127, Tryz.ntmps127)
 go_wp2_with fail
 rw [HW0.out]
 go_ret
 exact ⟨rfl, HB0.out⟩) : P := h
set_option maxHeartbeats 4000000 in
theorem rclose_any (t : Ex) (op : Int) (nm : ByteArray) (v : Vt) (ns : List ByteArray) (az : List Ex) (ht : t = .mk op nm v ns az) (cs : List Value) (B : Nat) (w : World) (hX : IsX B w cs t) : Calls Tryz.prog 127 #[.agg cs.toArray] w fun e w' => e = .returned (.int .i64 (closeB op nm)) ∧ Below w.heap.size w w' := Sq12
def zeroC : List Value := [.int .i64 0, .bool false, .int .i64 0, .string ⟨#[]⟩, .slice none 0 0, .slice none 0 0]
def emptyV : Vt := .mk 0 false 0 ⟨#[]⟩ [] []
theorem empty_isV (B : Nat) (w : World) : IsV B w zeroC emptyV := by
 unfold emptyV IsV
 exact ⟨none, 0, none, 0, rfl, by unfold in64; omega, by unfold in64; omega, by simp, by simp, fun _ => rfl, fun _ => rfl, .inl rfl, by simp [IsVs]⟩
def noneB : Ex → Bool
  | .mk op nm v ns az => (op == 0) && ((nm.toList == []) && (sameV v emptyV && (decide (ns.length = 0) && decide (az.length = 0))))
end Go.Proofs.YtndhpdclpgemfaaGreat

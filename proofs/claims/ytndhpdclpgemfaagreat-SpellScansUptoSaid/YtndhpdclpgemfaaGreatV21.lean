/- Parts X34, X36 of this seat (pruned, scripts that are alike kept once as default arguments: q1, q2, ..). Conditions: each says its own. -/
import Derived.Test.YtndhpdclpgemfaaGreatV20
namespace Go.Proofs.YtndhpdclpgemfaaGreat
open Go.RowKit Go.Shelf
set_option linter.unusedSimpArgs false
set_option linter.unusedVariables false
set_option maxRecDepth 100000
theorem may_call (p : Part) (v : Value) (B : Nat) (w : World) (hX : IsPart B w v p) (hB : B ≤ w.heap.size) (hML : ML w) (hw : wtPart p ≤ 1048576) :
    ∃ tid pv f, v = .iface tid pv ∧ (∀ w' : World, (method 317 tid pv "wattle/spell.may").run Tryz.prog w' = .ok (f, pv) w') ∧ (∀ w' : World, (callFunc f #[pv]).run Tryz.prog w' = .ok (.enter f #[pv]) w') ∧ Calls Tryz.prog f #[pv] w fun e w' => e = .returned (.bool (partM p)) ∧ Below w.heap.size w w' := by
 cases p with
 | nm s => exact ⟨122, .string s, 202, hX, fun _ => by kernel_rfl, fun _ => by kernel_rfl, pmayName_any s w (by have : s.size ≤ 1048576 := hw; omega) hML⟩
 | ex t => obtain ⟨cs, rfl, hX⟩ := hX; exact ⟨93, _, 175, rfl, fun _ => by kernel_rfl, fun _ => by kernel_rfl, pmayExpr_any t cs B w hX hB hML (by have : wtX t ≤ 1048576 := hw; omega)⟩
 | pt t => obtain ⟨cs, rfl, hX⟩ := hX; exact ⟨111, _, 190, rfl, fun _ => by kernel_rfl, fun _ => by kernel_rfl, pmayPath_any t cs B w hX hB hML (by have : wtPt t ≤ 1048576 := hw; omega)⟩
 | it t => obtain ⟨cs, rfl, hX⟩ := hX; exact ⟨116, _, 198, rfl, fun _ => by kernel_rfl, fun _ => by kernel_rfl, pmayItem_any t cs B w hX hB hML (by have : wtIt t ≤ 1048576 := hw; omega)⟩
 | so t => obtain ⟨cs, rfl, hX⟩ := hX; exact ⟨119, _, 200, rfl, fun _ => by kernel_rfl, fun _ => by kernel_rfl, pmaySort_any t cs B w hX hB hML (by have : wtSo t ≤ 1048576 := hw; omega)⟩
 | si t st => obtain ⟨cs, rfl, hX⟩ := hX; exact ⟨126, _, 204, rfl, fun _ => by kernel_rfl, fun _ => by kernel_rfl, pmaySet_any t st cs B w hX hB hML (by have : wtSi t ≤ 1048576 := hw; omega)⟩
theorem all_bad {α : Type} {f : α → Bool} {l : List α} {j : Nat} {x : α} (hx : l[j]? = some x) (h : f x = false) : l.all f = false := anyL_false hx h
theorem groupM_bad {g : Grt} {m : Nat} {p : Part} (h : g.parts[m]? = some p) (hp : partM p = false) : groupM g = false := by
 unfold groupM; rw [all_bad h hp]; simp
theorem groupM_few {g : Grt} (h : (g.parts.length : Int) < g.least) : groupM g = false := by
 unfold groupM; rw [decide_eq_false (by omega)]; rfl
theorem groupM_many {g : Grt} (h : g.most < (g.parts.length : Int)) : groupM g = false := by
 unfold groupM; rw [decide_eq_false (p := (g.parts.length : Int) ≤ g.most) (by omega)]; simp
theorem groupM_good {g : Grt} (h1 : ¬ (g.parts.length : Int) < g.least) (h2 : ¬ g.most < (g.parts.length : Int)) (h : ∀ (i : Nat) p, g.parts[i]? = some p → partM p = true) : groupM g = true := by
 unfold groupM; rw [decide_eq_true (by omega), decide_eq_true (by omega), allL_true h]; rfl
theorem clauseM_bad {c : Clt} {b : Bool} {k : Nat} {g : Grt} (h : (groupsL c)[k]? = some g) (hg : groupM g = false) : clauseM c b = false := by
 unfold clauseM; rw [all_bad h hg]; simp
def headBad (c : Clt) (more : Bool) : Bool := !groupsB c || ((groupsL c).isEmpty || (c.kind == 9 && more))
theorem clauseM_head {c : Clt} {b : Bool} (h : headBad c b = true) : clauseM c b = false := by
 unfold headBad at h; unfold clauseM
 cases h1 : groupsB c with
 | false => rfl
 | true =>
  rw [h1] at h
  cases h2 : (groupsL c).isEmpty with
  | true => rfl
  | false =>
   rw [h2] at h
   cases h3 : (c.kind == 9 && b) with
   | true => rfl
   | false => rw [h3] at h; cases h
theorem clauseM_good {c : Clt} {b : Bool} (h : headBad c b = false) (hg : ∀ (i : Nat) g, (groupsL c)[i]? = some g → groupM g = true) : clauseM c b = true := by
 unfold headBad at h; unfold clauseM
 rw [allL_true hg]
 cases h1 : groupsB c with
 | false => rw [h1] at h; cases h
 | true =>
  rw [h1] at h
  cases h2 : (groupsL c).isEmpty with
  | true => rw [h2] at h; cases h
  | false =>
   rw [h2] at h
   cases h3 : (c.kind == 9 && b) with
   | true => rw [h3] at h; cases h
   | false => rfl
theorem rightB_bad {l : List Clt} {j : Nat} {c : Clt} (h : l[j]? = some c) (hc : clauseM c (decide (j + 1 < l.length)) = false) : rightB ⟨l⟩ = false := by
 have h1 : clausesM l = false := by
  cases h2 : clausesM l with
  | false => rfl
  | true => rw [(clausesM_iff l).1 h2 j c h] at hc; cases hc
 unfold rightB
 simp only [h1, Bool.and_false]
def stmtBad (l : List Clt) : Bool := !(decide (1 ≤ l.length) && (decide (l.length ≤ 64) && lastM l))
theorem rightB_stmt {l : List Clt} (h : stmtBad l = true) : rightB ⟨l⟩ = false := by
 unfold stmtBad at h; unfold rightB
 cases h1 : decide (1 ≤ l.length) with
 | false => rfl
 | true =>
  cases h2 : decide (l.length ≤ 64) with
  | false => rfl
  | true =>
   cases h3 : lastM l with
   | false => rfl
   | true => rw [h1, h2, h3] at h; cases h
theorem rightB_good {l : List Clt} (h : stmtBad l = false) (hc : ∀ (i : Nat) c, l[i]? = some c → clauseM c (decide (i + 1 < l.length)) = true) : rightB ⟨l⟩ = true := by
 unfold stmtBad at h; unfold rightB
 rw [(clausesM_iff l).2 hc]
 cases h1 : decide (1 ≤ l.length) with
 | false => rw [h1] at h; cases h
 | true =>
  cases h2 : decide (l.length ≤ 64) with
  | false => rw [h1, h2] at h; cases h
  | true =>
   cases h3 : lastM l with
   | false => rw [h1, h2, h3] at h; cases h
   | true => rfl
theorem cl_one {B : Nat} {w : World} {cs : List Value} {c : Clt} (h : IsCl B w cs c) : cs.length = 22 ∧ (cs.toArray.all (·.oneCell') = true) ∧ cs[0]? = some (.int .i64 c.kind) := by
 obtain ⟨kd, l1, l2, ex, vr, l5, un, l7, l8, l9, l10, l11, de⟩ := c
 obtain ⟨op, nm, xv, xns, xaz⟩ := ex
 obtain ⟨a1, c1, a2, c2, xe, a5, c5, a7, c7, a8, c8, a9, c9, a10, c10, a11, c11, rfl, -, -, -, -, -, hE, -⟩ := h
 obtain ⟨xk, xb, xi, xs, xl, xks, xla, xlc, xka, xkc, xna, xnc, xxa, xxc, rfl, rfl, -⟩ := hE.cells
 exact ⟨rfl, by simp [Value.oneCell'], rfl⟩
theorem mk_box' {C : Nat} {W0 : World} (u : Ext C W0) (hC : C ≤ W0.heap.size) (zs vals : List Value) (t : TypeId) (hl : vals.length = zs.length) :
    ∃ u2 : Ext C W0, (u.w.alloc (.cells zs.toArray t)).setCells u.w.heap.size 0 vals = u2.w ∧ Below u.w.heap.size u.w u2.w ∧ Block u2.w u.w.heap.size vals t ∧ u.w.heap.size < u2.w.heap.size ∧ (u.w.alloc (.cells zs.toArray t)).there u.w.heap.size 0 vals.length := by
 have hs : ∀ (vs cur : List Value) (o : Nat), o + vs.length = cur.length → setCs cur o vs = cur.take o ++ vs := by
  exact Sv244175
 exact mk_box u hC zs vals t (by rw [hs _ _ _ (by omega)]; rfl) (by omega)
def partsX (w : List UInt8) : Bool → List Part → List UInt8
  | _, [] => []
  | first, p :: ps => (if first = true then w else [44, 32]) ++ (partX p ++ partsX w false ps)
def groupX (g : Grt) : List UInt8 := partsX g.word.data.toList true g.parts
def clauseX (c : Clt) : List UInt8 := (groupsL c).flatMap groupX
def clTail : Bool → List Clt → List UInt8
  | _, [] => []
  | first, c :: cs => (if first = true then [] else [32]) ++ (clauseX c ++ clTail false cs)
def stmtX (l : List Clt) : List UInt8 := clTail true l
theorem ba_len (s : ByteArray) : s.data.toList.length = s.size := by simp
theorem sum_take_le {α : Type} (f : α → Nat) (l : List α) (j : Nat) : ((l.take j).map f).sum ≤ (l.map f).sum := by
 have h1 : l = l.take j ++ l.drop j := (List.take_append_drop _ _).symm
 have h2 : (l.map f).sum = ((l.take j).map f).sum + ((l.drop j).map f).sum := by rw [← List.sum_append, ← List.map_append, ← h1]
 omega
theorem partX_len (p : Part) : (partX p).length ≤ 64 * wtPart p + 16 := by
 cases p with
 | ex t => have := textX_len t; simp only [partX, wtPart]; omega
 | nm s => have := ba_len s; simp only [partX, wtPart]; omega
 | pt p =>
  have h := pathPre_len p.nodes p.edges p.nodes.length
  have h1 := sum_take_le wtNp p.nodes p.nodes.length
  have h2 := sum_take_le wtEp p.edges (p.nodes.length - 1)
  simp only [partX, wtPart, pathX, wtPt]; omega
 | it i =>
  have h := textX_len i.e
  have h1 := ba_len i.nm
  simp only [partX, wtPart, itemX, wtIt, List.length_append]
  split
  ·simp only [List.length_append, List.length_cons, List.length_nil]; omega
  ·simp only [List.length_nil]; omega
 | so s =>
  have h := textX_len s.e
  simp only [partX, wtPart, sortX, wtSo, List.length_append]
  split <;> simp only [List.length_cons, List.length_nil] <;> omega
 | si s st =>
  have h := textX_len s.e
  have h1 := ba_len s.var
  have h2 := keyTL_len s.key
  have h3 := labX_len s.label
  simp only [partX, wtPart, setX, wtSi, List.length_append]
  split
  ·simp only [List.length_append, List.length_cons, List.length_nil]
   split <;> simp only [List.length_append, List.length_cons, List.length_nil] <;> omega
  ·omega
theorem partsX_len (w : List UInt8) : ∀ (f : Bool) (ps : List Part), (partsX w f ps).length ≤ w.length + 64 * (ps.map wtPart).sum + 18 * ps.length
  | _, [] => by simp [partsX]
  | f, p :: ps => by
    have h := partsX_len w false ps
    have h1 := partX_len p
    have h2 : (partsX w false ps).length ≤ 64 * (ps.map wtPart).sum + 18 * ps.length + w.length := by omega
    have h3 : ∀ ps : List Part, (partsX w false ps).length ≤ 64 * (ps.map wtPart).sum + 18 * ps.length := by
      intro ps
      induction ps with
      | nil => simp [partsX]
      | cons q qs ih =>
        have h4 := partX_len q
        simp only [partsX, List.length_append, List.map_cons, List.sum_cons, List.length_cons, Bool.false_eq_true, if_false, List.length_nil]
        omega
    have h5 := h3 ps
    cases f <;> simp only [partsX, List.length_append, List.map_cons, List.sum_cons, List.length_cons, Bool.false_eq_true, if_false, if_true, List.length_nil] <;> omega
theorem groups_sum (c : Clt) : (groupsL c).length ≤ 5 ∧ ∀ g ∈ groupsL c, (g.parts.map wtPart).sum ≤ wtCl c ∧ g.parts.length ≤ wtCl c ∧ g.word.size ≤ 16 := by
 have hs : ∀ {α : Type} (f : α → Part) (l : List α), ((l.map f).map wtPart).sum = (l.map fun x => wtPart (f x)).sum := fun f l => by rw [List.map_map]; rfl
 have h1 := len_sum (f := wtPt) (fun x => by unfold wtPt; omega) c.paths
 have h2 := wtXs_len c.whr
 have h3 := len_sum (f := wtIt) (fun x => by unfold wtIt; omega) c.items
 have h4 := len_sum (f := wtSo) (fun x => by unfold wtSo; omega) c.order
 have h5 := wtXs_len c.skip
 have h6 := wtXs_len c.limit
 have h7 := len_sum (f := wtSi) (fun x => by unfold wtSi; omega) c.sets
 have h8 := wtS_len c.vars
 have g1 : ((c.paths.map Part.pt).map wtPart).sum ≤ wtCl c ∧ (c.paths.map Part.pt).length ≤ wtCl c := by rw [hs, List.length_map]; show (c.paths.map wtPt).sum ≤ _ ∧ _; unfold wtCl; omega
 have g2 : ((c.whr.map Part.ex).map wtPart).sum ≤ wtCl c ∧ (c.whr.map Part.ex).length ≤ wtCl c := by rw [hs, List.length_map]; show (c.whr.map wtX).sum ≤ _ ∧ _; rw [← wtXs_sum]; unfold wtCl; omega
 have g3 : ((c.items.map Part.it).map wtPart).sum ≤ wtCl c ∧ (c.items.map Part.it).length ≤ wtCl c := by rw [hs, List.length_map]; show (c.items.map wtIt).sum ≤ _ ∧ _; unfold wtCl; omega
 have g4 : ((c.order.map Part.so).map wtPart).sum ≤ wtCl c ∧ (c.order.map Part.so).length ≤ wtCl c := by rw [hs, List.length_map]; show (c.order.map wtSo).sum ≤ _ ∧ _; unfold wtCl; omega
 have g5 : ((c.skip.map Part.ex).map wtPart).sum ≤ wtCl c ∧ (c.skip.map Part.ex).length ≤ wtCl c := by rw [hs, List.length_map]; show (c.skip.map wtX).sum ≤ _ ∧ _; rw [← wtXs_sum]; unfold wtCl; omega
 have g6 : ((c.limit.map Part.ex).map wtPart).sum ≤ wtCl c ∧ (c.limit.map Part.ex).length ≤ wtCl c := by rw [hs, List.length_map]; show (c.limit.map wtX).sum ≤ _ ∧ _; rw [← wtXs_sum]; unfold wtCl; omega
 have g7 : ((c.sets.map (fun s => Part.si s (c.kind == 6))).map wtPart).sum ≤ wtCl c ∧ (c.sets.map (fun s => Part.si s (c.kind == 6))).length ≤ wtCl c := by rw [hs, List.length_map]; show (c.sets.map wtSi).sum ≤ _ ∧ _; unfold wtCl; omega
 have g8 : ((c.vars.map Part.nm).map wtPart).sum ≤ wtCl c ∧ (c.vars.map Part.nm).length ≤ wtCl c := by
  rw [hs, List.length_map]
  have h9 : ∀ l : List ByteArray, (l.map fun x => x.size).sum ≤ wtS l := by
   intro l; unfold wtS; induction l with
   | nil => simp
   | cons x l ih => simp only [List.map_cons, List.sum_cons]; omega
  have h10 := h9 c.vars
  show (c.vars.map fun x => x.size).sum ≤ _ ∧ _
  unfold wtCl; omega
 have gE : ([Part.ex c.e].map wtPart).sum ≤ wtCl c ∧ [Part.ex c.e].length ≤ wtCl c := by
  simp only [List.map_cons, List.map_nil, List.sum_cons, List.sum_nil, wtPart, List.length_cons, List.length_nil]; unfold wtCl; omega
 have gV : ([Part.nm c.var].map wtPart).sum ≤ wtCl c ∧ [Part.nm c.var].length ≤ wtCl c := by
  simp only [List.map_cons, List.map_nil, List.sum_cons, List.sum_nil, wtPart, List.length_cons, List.length_nil]; unfold wtCl; omega
 have hu : (uniqW c).size ≤ 9 := by unfold uniqW; split <;> decide
 have hN : ∀ g ∈ ([] : List Grt), (g.parts.map wtPart).sum ≤ wtCl c ∧ g.parts.length ≤ wtCl c ∧ g.word.size ≤ 16 := fun g hg => by simp at hg
 have hT : ∀ g ∈ tailG c, (g.parts.map wtPart).sum ≤ wtCl c ∧ g.parts.length ≤ wtCl c ∧ g.word.size ≤ 16 := List.forall_mem_cons.2 ⟨⟨g4.1, g4.2, by show (⟨#[32, 79, 82, 68, 69, 82, 32, 66, 89, 32]⟩ : ByteArray).size ≤ 16; decide⟩, List.forall_mem_cons.2 ⟨⟨g5.1, g5.2, by show (⟨#[32, 83, 75, 73, 80, 32]⟩ : ByteArray).size ≤ 16; decide⟩, List.forall_mem_cons.2 ⟨⟨g6.1, g6.2, by show (⟨#[32, 76, 73, 77, 73, 84, 32]⟩ : ByteArray).size ≤ 16; decide⟩, hN⟩⟩⟩
 have hWh : (whereG c).word.size ≤ 16 := by show (⟨#[32, 87, 72, 69, 82, 69, 32]⟩ : ByteArray).size ≤ 16; decide
 unfold groupsL
 by_cases k1 : c.kind = 1
 ·rw [if_pos k1]; exact ⟨by simp, List.forall_mem_cons.2 ⟨⟨g1.1, g1.2, by show (⟨#[77, 65, 84, 67, 72, 32]⟩ : ByteArray).size ≤ 16; decide⟩, List.forall_mem_cons.2 ⟨⟨g2.1, g2.2, hWh⟩, hN⟩⟩⟩
 rw [if_neg k1]
 by_cases k2 : c.kind = 2
 ·rw [if_pos k2]; exact ⟨by simp, List.forall_mem_cons.2 ⟨⟨gE.1, gE.2, by show (⟨#[85, 78, 87, 73, 78, 68, 32]⟩ : ByteArray).size ≤ 16; decide⟩, List.forall_mem_cons.2 ⟨⟨gV.1, gV.2, by show (⟨#[32, 65, 83, 32]⟩ : ByteArray).size ≤ 16; decide⟩, hN⟩⟩⟩
 rw [if_neg k2]
 by_cases k3 : c.kind = 3
 ·rw [if_pos k3]
  refine ⟨by simp [tailG], List.forall_mem_cons.2 ⟨⟨g3.1, g3.2, ?_⟩, fun g hg => ?_⟩⟩
  ·show ((⟨#[87, 73, 84, 72, 32]⟩ : ByteArray) ++ uniqW c).size ≤ 16
   rw [ByteArray.size_append]; have : (⟨#[87, 73, 84, 72, 32]⟩ : ByteArray).size = 5 := rfl; omega
  ·rcases List.mem_append.1 hg with hg | hg
   ·exact hT g hg
   ·rw [List.mem_singleton.1 hg]; exact ⟨g2.1, g2.2, hWh⟩
 rw [if_neg k3]
 by_cases k9 : c.kind = 9
 ·rw [if_pos k9]
  refine ⟨by simp [tailG], List.forall_mem_cons.2 ⟨⟨g3.1, g3.2, ?_⟩, hT⟩⟩
  show ((⟨#[82, 69, 84, 85, 82, 78, 32]⟩ : ByteArray) ++ uniqW c).size ≤ 16
  rw [ByteArray.size_append]; have : (⟨#[82, 69, 84, 85, 82, 78, 32]⟩ : ByteArray).size = 7 := rfl; omega
 rw [if_neg k9]
 by_cases k4 : c.kind = 4
 ·rw [if_pos k4]; exact ⟨by simp, List.forall_mem_cons.2 ⟨⟨g1.1, g1.2, by show (⟨#[67, 82, 69, 65, 84, 69, 32]⟩ : ByteArray).size ≤ 16; decide⟩, hN⟩⟩
 rw [if_neg k4]
 by_cases k5 : c.kind = 5
 ·rw [if_pos k5]
  by_cases hm : mergeBad c = true
  ·rw [if_pos hm]; exact ⟨by simp, hN⟩
  ·rw [if_neg hm]; exact ⟨by simp, List.forall_mem_cons.2 ⟨⟨g1.1, g1.2, by show (⟨#[77, 69, 82, 71, 69, 32]⟩ : ByteArray).size ≤ 16; decide⟩, hN⟩⟩
 rw [if_neg k5]
 by_cases k6 : c.kind = 6
 ·rw [if_pos k6]; exact ⟨by simp, List.forall_mem_cons.2 ⟨⟨g7.1, g7.2, by show (⟨#[83, 69, 84, 32]⟩ : ByteArray).size ≤ 16; decide⟩, hN⟩⟩
 rw [if_neg k6]
 by_cases k7 : c.kind = 7
 ·rw [if_pos k7]; exact ⟨by simp, List.forall_mem_cons.2 ⟨⟨g7.1, g7.2, by show (⟨#[82, 69, 77, 79, 86, 69, 32]⟩ : ByteArray).size ≤ 16; decide⟩, hN⟩⟩
 rw [if_neg k7]
 by_cases k8 : c.kind = 8
 ·rw [if_pos k8]; exact ⟨by simp, List.forall_mem_cons.2 ⟨⟨g8.1, g8.2, by show (if c.detach = true then (⟨#[68, 69, 84, 65, 67, 72, 32, 68, 69, 76, 69, 84, 69, 32]⟩ : ByteArray) else ⟨#[68, 69, 76, 69, 84, 69, 32]⟩).size ≤ 16; split <;> decide⟩, hN⟩⟩
 rw [if_neg k8]
 exact ⟨by simp, hN⟩
theorem flat_len {α : Type} {f : α → List UInt8} {l : List α} {K : Nat} (h : ∀ x ∈ l, (f x).length ≤ K) : (l.flatMap f).length ≤ l.length * K := by
 induction l with
 | nil => simp
 | cons x l ih =>
  have h1 := h x (List.mem_cons_self ..)
  have h2 := ih (fun y hy => h y (List.mem_cons_of_mem _ hy))
  simp only [List.flatMap_cons, List.length_append, List.length_cons, Nat.add_mul, Nat.one_mul]
  omega
theorem clauseX_len (c : Clt) : (clauseX c).length ≤ 5 * (16 + 82 * wtCl c) := by
 obtain ⟨h1, h2⟩ := groups_sum c
 have h3 : ∀ g ∈ groupsL c, (groupX g).length ≤ 16 + 82 * wtCl c := fun g hg => by
  obtain ⟨h4, h5, h6⟩ := h2 g hg
  have h7 := partsX_len g.word.data.toList true g.parts
  rw [ba_len] at h7
  unfold groupX; omega
 exact Nat.le_trans (flat_len h3) (Nat.mul_le_mul_right _ h1)
theorem clTail_len : ∀ (f : Bool) (l : List Clt), (clTail f l).length ≤ 491 * (l.map wtCl).sum
  | _, [] => by simp [clTail]
  | f, c :: cs => by
    have h := clTail_len false cs
    have h1 := clauseX_len c
    have h2 : 1 ≤ wtCl c := by unfold wtCl; omega
    cases f <;> simp only [clTail, List.length_append, List.map_cons, List.sum_cons, List.length_cons, Bool.false_eq_true, if_false, if_true, List.length_nil] <;> omega
theorem stmtX_len (s : Smt) (h : wtSm s ≤ 1048576) : (stmtX s.clauses).length ≤ 549755813888 := by
 have := clTail_len true s.clauses
 unfold wtSm at h; unfold stmtX; omega
def scanOk : ScanR → Bool
  | .ok _ => true
  | .bad _ x => x == 0
def printE (s : Smt) : Int := if rightB s = true then (if scanOk (scanL (stmtX s.clauses)) = true then 0 else 8) else 20
def printT (s : Smt) : ByteArray := if rightB s = true then (if scanOk (scanL (stmtX s.clauses)) = true then strOf (stmtX s.clauses) else ⟨#[]⟩) else ⟨#[]⟩
/-! Worlds that a builder's writers leave. -/
def Kp.trans {B b : Nat} {W : World} (u : Kp B b W) (v : Kp B b u.w) : Kp B b W := ⟨v.w, u.below.trans v.below, u.kept.trans v.kept⟩
theorem kp_block {B b : Nat} {W : World} (u : Kp B b W) {k : Nat} {cur : List Value} {t : TypeId} (h : Block W k cur t) (ht : t ≠ 5) (hk : k ≠ b) : Block u.w k cur t :=
  u.kept k _ h (fun e => hk (Option.some.inj e)) (fun c fz e => ht (by injection e))
theorem kp_next {B b : Nat} {W w2 : World} (u : Kp B b W) (hB : B ≤ W.heap.size) (hb : Below u.w.heap.size u.w w2) : ∃ v : Kp B b W, w2 = v.w :=
  ⟨⟨w2, u.below.trans (hb.mono (Nat.le_trans hB u.below.size)), u.kept.trans (others_below hb)⟩, rfl⟩
theorem PartT.kp {B C b : Nat} {W : World} {a : Option Addr} {ps : List Part} (h : PartT B W a ps) (u : Kp C b W) (hB : B ≤ C) (hb : ∃ cur, W.heap[b]? = some (.cells cur 74 (0, 0))) : PartT B u.w a ps := by
 obtain ⟨vs, h1, h2, h3⟩ := h
 refine ⟨vs, h1.imp id ?_, h2, fun i p hp => by obtain ⟨v, h4, h5⟩ := h3 i p hp; exact ⟨v, h4, h5.below (u.below.mono hB) (Nat.le_refl _)⟩⟩
 rintro ⟨g, h4, h5, ⟨cur, h6⟩, h7⟩
 have hne : g ≠ b := by
  rintro rfl
  obtain ⟨c2, h8⟩ := hb
  rw [h6] at h8
  injection h8 with h8
  injection h8 with _ h9
  exact absurd h9 (by decide)
 have hk : u.w.heap[g]? = some (.cells cur 85 (0, 0)) := u.kept g _ h6 (fun e => hne (Option.some.inj e)) (fun c fz e => by injection e with _ h9; exact absurd h9 (by decide))
 refine ⟨g, h4, (Array.getElem?_eq_some_iff.1 hk).1, ⟨cur, hk⟩, fun k v hv => ?_⟩
 rw [← h7 k v hv]
 simp only [World.cell?, hk, h6]
theorem GRow.kp {B C b : Nat} {W : World} {a : Option Addr} {gs : List Grt} (h : GRow B W a gs) (u : Kp C b W) (hB : B ≤ C) (hb : ∃ cur, W.heap[b]? = some (.cells cur 74 (0, 0))) : GRow B u.w a gs := by
 intro i g hg
 obtain ⟨k, cs, h1, h2, ⟨cur, h3⟩, h4, pa, pc, h5, h6, h7⟩ := h i g hg
 have hne : k ≠ b := by
  rintro rfl
  obtain ⟨c2, h8⟩ := hb
  rw [h3] at h8
  injection h8 with h8
  injection h8 with _ h9
  exact absurd h9 (by decide)
 have hk : u.w.heap[k]? = some (.cells cur 83 (0, 0)) := u.kept k _ h3 (fun e => hne (Option.some.inj e)) (fun c fz e => by injection e with _ h9; exact absurd h9 (by decide))
 refine ⟨k, cs, h1, (Array.getElem?_eq_some_iff.1 hk).1, ⟨cur, hk⟩, fun j v hv => ?_, pa, pc, h5, h6, h7.kp u hB hb⟩
 rw [← h4 j v hv]
 simp only [World.cell?, hk, h3]
theorem bld_there {B b : Nat} {l : List UInt8} {w : World} (h : Bld B b l w) : ∃ cur, w.heap[b]? = some (.cells cur 74 (0, 0)) := by
 unfold Bld Lib.IsBuilderF at h
 rcases h with ⟨hB, v, h1, h2, h3⟩ | ⟨hB, v, h1, h2, h3⟩ <;> exact ⟨_, h1⟩
theorem kp_box {B b : Nat} {W : World} (u : Kp B b W) (hB : B ≤ W.heap.size) (l : List UInt8) (hl : Bld B b l u.w) (zs vals : List Value) (t : TypeId) (hv : vals.length = zs.length) :
    ∃ u2 : Kp B b W, (u.w.alloc (.cells zs.toArray t)).setCells u.w.heap.size 0 vals = u2.w ∧ Bld B b l u2.w ∧ Block u2.w u.w.heap.size vals t ∧ u.w.heap.size ≠ b ∧ (u.w.alloc (.cells zs.toArray t)).there u.w.heap.size 0 vals.length := by
 obtain ⟨e, he⟩ := Ext.start u.w.heap.size u.w
 obtain ⟨e2, h1, h2, h3, h4, h5⟩ := mk_box' e (Nat.le_refl _) zs vals t hv
 rw [← he] at h1 h2 h3 h4 h5
 obtain ⟨u2, hu2⟩ := kp_next u hB h2
 rw [hu2] at h1 h2 h3
 exact ⟨u2, h1, hl.below h2, h3, by have := hl.lt; omega, h5⟩
theorem kp_alloc {B b : Nat} {W : World} (u : Kp B b W) (hB : B ≤ W.heap.size) (l : List UInt8) (hl : Bld B b l u.w) (vals : List Value) (t : TypeId) :
    ∃ u2 : Kp B b W, u.w.alloc (.cells vals.toArray t) = u2.w ∧ Bld B b l u2.w ∧ Block u2.w u.w.heap.size vals t ∧ u.w.heap.size ≠ b := by
 obtain ⟨u2, h1, h2⟩ := u.alloc hB (.cells vals.toArray t) hl
 exact ⟨u2, h1, h2, by rw [← h1]; exact Block.new _ _ _, by have := hl.lt; omega⟩
end Go.Proofs.YtndhpdclpgemfaaGreat

/- Parts X33, X34, X36, X35, X38 of this seat (pruned, scripts that are alike kept once as default arguments: q1, q2, ..). Conditions: each says its own. -/
import Derived.Test.YteljlahcdipilaaGreatF20
namespace Go.Proofs.YteljlahcdipilaaGreat
open Go.RowKit Go.Shelf
set_option linter.unusedSimpArgs false
set_option linter.unusedVariables false
set_option maxRecDepth 100000
def GroupsAt (c : Clt) : Prop := ∀ (cs : List Value) (B : Nat) (w : World), IsCl B w cs c → B ≤ w.heap.size → wtCl c ≤ 1048576 →
    Calls Tryz.prog 35 #[.agg cs.toArray] w fun e w' => ∃ a n cap, e = .returned (.tuple #[.slice a n cap, .bool (groupsB c)]) ∧ n = (groupsL c).length ∧ SlOk a n cap ∧ GRow B w' a (groupsL c) ∧ Below w.heap.size w w'
def GroupsSaid : Prop := ∀ c : Clt, GroupsAt c
theorem sum_mem {α : Type} {f : α → Nat} {l : List α} {x : α} (h : x ∈ l) : f x ≤ (l.map f).sum := by
 induction l with
 | nil => simp at h
 | cons y l ih =>
  rcases List.mem_cons.1 h with rfl | h
  ·simp
  ·have := ih h; simp; omega
theorem groups_wt (c : Clt) : ∀ g ∈ groupsL c, ∀ p ∈ g.parts, wtPart p ≤ wtCl c := by
 have h1 : ∀ p ∈ c.paths.map Part.pt, wtPart p ≤ wtCl c := by
  intro p hp; obtain ⟨x, hx, rfl⟩ := List.mem_map.1 hp; have := sum_mem (f := wtPt) hx; simp only [wtPart]; unfold wtCl; omega
 have h2 : ∀ p ∈ c.whr.map Part.ex, wtPart p ≤ wtCl c := by
  intro p hp; obtain ⟨x, hx, rfl⟩ := List.mem_map.1 hp; have := sum_mem (f := wtX) hx; rw [← wtXs_sum] at this; simp only [wtPart]; unfold wtCl; omega
 have h5 : ∀ p ∈ c.items.map Part.it, wtPart p ≤ wtCl c := by
  intro p hp; obtain ⟨x, hx, rfl⟩ := List.mem_map.1 hp; have := sum_mem (f := wtIt) hx; simp only [wtPart]; unfold wtCl; omega
 have h7 : ∀ p ∈ c.order.map Part.so, wtPart p ≤ wtCl c := by
  intro p hp; obtain ⟨x, hx, rfl⟩ := List.mem_map.1 hp; have := sum_mem (f := wtSo) hx; simp only [wtPart]; unfold wtCl; omega
 have h8 : ∀ p ∈ c.skip.map Part.ex, wtPart p ≤ wtCl c := by
  intro p hp; obtain ⟨x, hx, rfl⟩ := List.mem_map.1 hp; have := sum_mem (f := wtX) hx; rw [← wtXs_sum] at this; simp only [wtPart]; unfold wtCl; omega
 have h9 : ∀ p ∈ c.limit.map Part.ex, wtPart p ≤ wtCl c := by
  intro p hp; obtain ⟨x, hx, rfl⟩ := List.mem_map.1 hp; have := sum_mem (f := wtX) hx; rw [← wtXs_sum] at this; simp only [wtPart]; unfold wtCl; omega
 have h10 : ∀ p ∈ c.sets.map (fun s => Part.si s (c.kind == 6)), wtPart p ≤ wtCl c := by
  intro p hp; obtain ⟨x, hx, rfl⟩ := List.mem_map.1 hp; have := sum_mem (f := wtSi) hx; simp only [wtPart]; unfold wtCl; omega
 have h11 : ∀ p ∈ c.vars.map Part.nm, wtPart p ≤ wtCl c := by
  intro p hp; obtain ⟨x, hx, rfl⟩ := List.mem_map.1 hp
  have h := sum_mem (f := fun k : ByteArray => k.size + 1) hx
  have h' : x.size + 1 ≤ wtS c.vars := h
  simp only [wtPart]; unfold wtCl; omega
 have hE : ∀ p ∈ [Part.ex c.e], wtPart p ≤ wtCl c := by
  intro p hp; rw [List.mem_singleton.1 hp]; simp only [wtPart]; unfold wtCl; omega
 have hV : ∀ p ∈ [Part.nm c.var], wtPart p ≤ wtCl c := by
  intro p hp; rw [List.mem_singleton.1 hp]; simp only [wtPart]; unfold wtCl; omega
 have hN : ∀ g ∈ ([] : List Grt), ∀ p ∈ g.parts, wtPart p ≤ wtCl c := fun g hg => by simp at hg
 have hT : ∀ g ∈ tailG c, ∀ p ∈ g.parts, wtPart p ≤ wtCl c := List.forall_mem_cons.2 ⟨h7, List.forall_mem_cons.2 ⟨h8, List.forall_mem_cons.2 ⟨h9, hN⟩⟩⟩
 unfold groupsL
 by_cases k1 : c.kind = 1
 ·rw [if_pos k1]; exact List.forall_mem_cons.2 ⟨h1, List.forall_mem_cons.2 ⟨h2, hN⟩⟩
 rw [if_neg k1]
 by_cases k2 : c.kind = 2
 ·rw [if_pos k2]; exact List.forall_mem_cons.2 ⟨hE, List.forall_mem_cons.2 ⟨hV, hN⟩⟩
 rw [if_neg k2]
 by_cases k3 : c.kind = 3
 ·rw [if_pos k3]
  refine List.forall_mem_cons.2 ⟨h5, fun g hg => ?_⟩
  rcases List.mem_append.1 hg with hg | hg
  ·exact hT g hg
  ·rw [List.mem_singleton.1 hg]; exact h2
 rw [if_neg k3]
 by_cases k9 : c.kind = 9
 ·rw [if_pos k9]; exact List.forall_mem_cons.2 ⟨h5, hT⟩
 rw [if_neg k9]
 by_cases k4 : c.kind = 4
 ·rw [if_pos k4]; exact List.forall_mem_cons.2 ⟨h1, hN⟩
 rw [if_neg k4]
 by_cases k5 : c.kind = 5
 ·rw [if_pos k5]
  by_cases hm : mergeBad c = true
  ·rw [if_pos hm]; exact hN
  ·rw [if_neg hm]; exact List.forall_mem_cons.2 ⟨h1, hN⟩
 rw [if_neg k5]
 by_cases k6 : c.kind = 6
 ·rw [if_pos k6]; exact List.forall_mem_cons.2 ⟨h10, hN⟩
 rw [if_neg k6]
 by_cases k7 : c.kind = 7
 ·rw [if_pos k7]; exact List.forall_mem_cons.2 ⟨h10, hN⟩
 rw [if_neg k7]
 by_cases k8 : c.kind = 8
 ·rw [if_pos k8]; exact List.forall_mem_cons.2 ⟨h11, hN⟩
 rw [if_neg k8]
 exact hN
def groupM (g : Grt) : Bool := decide (g.least ≤ (g.parts.length : Int)) && (decide ((g.parts.length : Int) ≤ g.most) && g.parts.all partM)
def clauseM (c : Clt) (more : Bool) : Bool := groupsB c && (!(groupsL c).isEmpty && (!(c.kind == 9 && more) && (groupsL c).all groupM))
def clausesM : List Clt → Bool
  | [] => true
  | c :: cs => clauseM c (!cs.isEmpty) && clausesM cs
def lastM (cs : List Clt) : Bool := match cs.getLast? with
  | some c => writesB c.kind || c.kind == 9
  | none => false
def rightB (s : Smt) : Bool := decide (1 ≤ s.clauses.length) && (decide (s.clauses.length ≤ 64) && (lastM s.clauses && clausesM s.clauses))
theorem clausesM_iff (cs : List Clt) : clausesM cs = true ↔ ∀ (i : Nat) c, cs[i]? = some c → clauseM c (decide (i + 1 < cs.length)) = true := by
 induction cs with
 | nil => simp [clausesM]
 | cons c cs ih =>
  have he : (!cs.isEmpty) = decide (0 + 1 < (c :: cs).length) := by cases cs <;> simp
  simp only [clausesM, Bool.and_eq_true]
  constructor
  ·rintro ⟨h1, h2⟩ i x hx
   cases i with
   | zero => simp only [List.getElem?_cons_zero, Option.some.injEq] at hx; subst hx; rw [he] at h1; exact h1
   | succ i =>
    rw [List.getElem?_cons_succ] at hx
    have h := ih.1 h2 i x hx
    rw [show decide (i + 1 + 1 < (c :: cs).length) = decide (i + 1 < cs.length) from by simp]; exact h
  ·intro h
   refine ⟨by rw [he]; exact h 0 c rfl, ih.2 fun i x hx => ?_⟩
   have := h (i + 1) x (by rw [List.getElem?_cons_succ]; exact hx)
   rwa [show decide (i + 1 + 1 < (c :: cs).length) = decide (i + 1 < cs.length) from by simp] at this
theorem may_call (p : Part) (v : Value) (B : Nat) (w : World) (hX : IsPart B w v p) (hB : B ≤ w.heap.size) (hML : ML w) (hw : wtPart p ≤ 1048576) :
    ∃ tid pv f, v = .iface tid pv ∧ (∀ w' : World, (method 326 tid pv "wattle/spell.may").run Tryz.prog w' = .ok (f, pv) w') ∧ (∀ w' : World, (callFunc f #[pv]).run Tryz.prog w' = .ok (.enter f #[pv]) w') ∧ Calls Tryz.prog f #[pv] w fun e w' => e = .returned (.bool (partM p)) ∧ Below w.heap.size w w' := by
 cases p with
 | nm s => exact ⟨141, .string s, 193, hX, fun _ => by kernel_rfl, fun _ => by kernel_rfl, pmayName_any s w (by have : s.size ≤ 1048576 := hw; omega) hML⟩
 | ex t => obtain ⟨cs, rfl, hX⟩ := hX; exact ⟨132, _, 187, rfl, fun _ => by kernel_rfl, fun _ => by kernel_rfl, pmayExpr_any t cs B w hX hB hML (by have : wtX t ≤ 1048576 := hw; omega)⟩
 | pt t => obtain ⟨cs, rfl, hX⟩ := hX; exact ⟨129, _, 149, rfl, fun _ => by kernel_rfl, fun _ => by kernel_rfl, pmayPath_any t cs B w hX hB hML (by have : wtPt t ≤ 1048576 := hw; omega)⟩
 | it t => obtain ⟨cs, rfl, hX⟩ := hX; exact ⟨135, _, 189, rfl, fun _ => by kernel_rfl, fun _ => by kernel_rfl, pmayItem_any t cs B w hX hB hML (by have : wtIt t ≤ 1048576 := hw; omega)⟩
 | so t => obtain ⟨cs, rfl, hX⟩ := hX; exact ⟨138, _, 191, rfl, fun _ => by kernel_rfl, fun _ => by kernel_rfl, pmaySort_any t cs B w hX hB hML (by have : wtSo t ≤ 1048576 := hw; omega)⟩
 | si t st => obtain ⟨cs, rfl, hX⟩ := hX; exact ⟨145, _, 195, rfl, fun _ => by kernel_rfl, fun _ => by kernel_rfl, pmaySet_any t st cs B w hX hB hML (by have : wtSi t ≤ 1048576 := hw; omega)⟩
theorem all_bad {α : Type} {f : α → Bool} {l : List α} {j : Nat} {x : α} (hx : l[j]? = some x) (h : f x = false) : l.all f = false := anyL_false hx h
theorem groupM_bad {g : Grt} {m : Nat} {p : Part} (h : g.parts[m]? = some p) (hp : partM p = false) : groupM g = false := by
 unfold groupM; rw [all_bad h hp]; simp
theorem groupM_few {g : Grt} (h : (g.parts.length : Int) < g.least) : groupM g = false := by
 unfold groupM; rw [decide_eq_false (by omega)]; rfl
theorem groupM_many {g : Grt} (h : g.most < (g.parts.length : Int)) : groupM g = false := by
 unfold groupM; rw [decide_eq_false (p := (g.parts.length : Int) ≤ g.most) (by omega)]; simp
theorem groupM_good {g : Grt} (h1 : ¬ (g.parts.length : Int) < g.least) (h2 : ¬ g.most < (g.parts.length : Int)) (h : ∀ (i : Nat) p, g.parts[i]? = some p → partM p = true) : groupM g = true := by
 unfold groupM; rw [decide_eq_true (by omega), decide_eq_true (by omega), allL_true h]; rfl
theorem clauseM_bad {c : Clt} {b : Bool} {k : Nat} {g : Grt} (h : (groupsL c)[k]? = some g) (hg : groupM g = false) : clauseM c b = false := by
 unfold clauseM; rw [all_bad h hg]; simp
def headBad (c : Clt) (more : Bool) : Bool := !groupsB c || ((groupsL c).isEmpty || (c.kind == 9 && more))
theorem clauseM_head {c : Clt} {b : Bool} (h : headBad c b = true) : clauseM c b = false := by
 unfold headBad at h; unfold clauseM
 cases h1 : groupsB c with
 | false => rfl
 | true =>
  rw [h1] at h
  cases h2 : (groupsL c).isEmpty with
  | true => rfl
  | false =>
   rw [h2] at h
   cases h3 : (c.kind == 9 && b) with
   | true => rfl
   | false => rw [h3] at h; cases h
theorem clauseM_good {c : Clt} {b : Bool} (h : headBad c b = false) (hg : ∀ (i : Nat) g, (groupsL c)[i]? = some g → groupM g = true) : clauseM c b = true := by
 unfold headBad at h; unfold clauseM
 rw [allL_true hg]
 cases h1 : groupsB c with
 | false => rw [h1] at h; cases h
 | true =>
  rw [h1] at h
  cases h2 : (groupsL c).isEmpty with
  | true => rw [h2] at h; cases h
  | false =>
   rw [h2] at h
   cases h3 : (c.kind == 9 && b) with
   | true => rw [h3] at h; cases h
   | false => rfl
theorem rightB_bad {l : List Clt} {j : Nat} {c : Clt} (h : l[j]? = some c) (hc : clauseM c (decide (j + 1 < l.length)) = false) : rightB ⟨l⟩ = false := by
 have h1 : clausesM l = false := by
  cases h2 : clausesM l with
  | false => rfl
  | true => rw [(clausesM_iff l).1 h2 j c h] at hc; cases hc
 unfold rightB
 simp only [h1, Bool.and_false]
def stmtBad (l : List Clt) : Bool := !(decide (1 ≤ l.length) && (decide (l.length ≤ 64) && lastM l))
theorem rightB_stmt {l : List Clt} (h : stmtBad l = true) : rightB ⟨l⟩ = false := by
 unfold stmtBad at h; unfold rightB
 cases h1 : decide (1 ≤ l.length) with
 | false => rfl
 | true =>
  cases h2 : decide (l.length ≤ 64) with
  | false => rfl
  | true =>
   cases h3 : lastM l with
   | false => rfl
   | true => rw [h1, h2, h3] at h; cases h
theorem rightB_good {l : List Clt} (h : stmtBad l = false) (hc : ∀ (i : Nat) c, l[i]? = some c → clauseM c (decide (i + 1 < l.length)) = true) : rightB ⟨l⟩ = true := by
 unfold stmtBad at h; unfold rightB
 rw [(clausesM_iff l).2 hc]
 cases h1 : decide (1 ≤ l.length) with
 | false => rw [h1] at h; cases h
 | true =>
  cases h2 : decide (l.length ≤ 64) with
  | false => rw [h1, h2] at h; cases h
  | true =>
   cases h3 : lastM l with
   | false => rw [h1, h2, h3] at h; cases h
   | true => rfl
theorem cl_one {B : Nat} {w : World} {cs : List Value} {c : Clt} (h : IsCl B w cs c) : cs.length = 22 ∧ (cs.toArray.all (·.oneCell') = true) ∧ cs[0]? = some (.int .i64 c.kind) := by
 obtain ⟨kd, l1, l2, ex, vr, l5, un, l7, l8, l9, l10, l11, de⟩ := c
 obtain ⟨op, nm, xv, xns, xaz⟩ := ex
 obtain ⟨a1, c1, a2, c2, xe, a5, c5, a7, c7, a8, c8, a9, c9, a10, c10, a11, c11, rfl, -, -, -, -, -, hE, -⟩ := h
 obtain ⟨xk, xb, xi, xs, xl, xks, xla, xlc, xka, xkc, xna, xnc, xxa, xxc, rfl, rfl, -⟩ := hE.cells
 exact ⟨rfl, by simp [Value.oneCell'], rfl⟩
theorem mk_box' {C : Nat} {W0 : World} (u : Ext C W0) (hC : C ≤ W0.heap.size) (zs vals : List Value) (t : TypeId) (hl : vals.length = zs.length) :
    ∃ u2 : Ext C W0, (u.w.alloc (.cells zs.toArray t)).setCells u.w.heap.size 0 vals = u2.w ∧ Below u.w.heap.size u.w u2.w ∧ Block u2.w u.w.heap.size vals t ∧ u.w.heap.size < u2.w.heap.size ∧ (u.w.alloc (.cells zs.toArray t)).there u.w.heap.size 0 vals.length := by
 have hs : ∀ (vs cur : List Value) (o : Nat), o + vs.length = cur.length → setCs cur o vs = cur.take o ++ vs := by
  exact Sq244175
 exact mk_box u hC zs vals t (by rw [hs _ _ _ (by omega)]; rfl) (by omega)
/-! Worlds that a builder's writers leave. -/
def Kp.trans {B b : Nat} {W : World} (u : Kp B b W) (v : Kp B b u.w) : Kp B b W := ⟨v.w, u.below.trans v.below, u.kept.trans v.kept⟩
theorem isEmpty_len {α : Type} (l : List α) : l.isEmpty = ((l.length : Int) == 0) := by
 cases l with
 | nil => rfl
 | cons a t => rw [List.isEmpty_cons, List.length_cons]; symm; rw [beq_eq_false_iff_ne]; omega
theorem lastM_get {l : List Clt} {c : Clt} (h : l[l.length - 1]? = some c) : lastM l = (writesB c.kind || c.kind == 9) := by
 unfold lastM
 rw [List.getLast?_eq_getElem?, h]
set_option maxHeartbeats 64000000 in
theorem pright_any (s : Smt) (HG : ∀ c ∈ s.clauses, GroupsAt c) (cs : List Value) (B : Nat) (w : World) (hX : IsSm B w cs s) (hB : B ≤ w.heap.size) (hML : ML w) (hw : wtSm s ≤ 1048576) :
    Calls Tryz.prog 30 #[.agg cs.toArray] w fun e w' => e = .returned (.bool (rightB s)) ∧ Below w.heap.size w w' := by
 obtain ⟨l⟩ := s
 obtain ⟨a, cc, rfl, hsl, hR⟩ := hX
 simp only at hsl hR ⊢
 obtain ⟨n, hn⟩ := nam l.length
 rw [hn] at hsl ⊢
 obtain ⟨Q, hQ⟩ : ∃ Q, rightB ⟨l⟩ = Q := ⟨_, rfl⟩
 rw [hQ]
 have HW : Hid (∀ c ∈ l, wtCl c ≤ 1048576) := Lib.hid (fun c hc => by have := sum_mem (f := wtCl) hc; unfold wtSm at hw; simp only at hw; omega)
 obtain ⟨W0, p0, hW0, hp0, hsz, hbe, hce⟩ := box_ext w [.slice a n cc] 35
 have e0 := fun u => hce u 0 _ rfl
 have HAT : Hid (∀ (j : Nat) c, l[j]? = some c → ∃ bb off cs, a = some ⟨bb, off, none⟩ ∧ bb < B ∧ cs.length = 22 ∧ (∀ (u : Ext (w.heap.size + 1) W0) (q : Nat) v, cs[q]? = some v → u.w.cell? ⟨bb, off + j * 22 + q, none⟩ = some v) ∧ ∀ u : Ext (w.heap.size + 1) W0, IsCl B u.w cs c) := Lib.hid (fun j c hc => hR.at_gen (R := fun v => IsCl B v) (f := fun u : Ext (w.heap.size + 1) W0 => u.w) hB hbe (fun u cs x h => h.below (hbe u) hB) hc)
 have HML : Hid (∀ u : Ext (w.heap.size + 1) W0, ML u.w) := Lib.hid (fun u => hML.below (hbe u))
 obtain ⟨HN, HQ, HBE, HSZ, HW0, HP0, HB⟩ := hd7 hn hQ hbe hsz hW0 hp0 hB
 have hsc : n ≤ 9223372036854775807 := by have := hsl.1; omega
 clear hR hn hQ hbe hsz hW0 hp0 hce hB hML hw hsl
 go_enter Tryz.func30, Tryz.ntmps30
 go_upto_region 1 with fail
 rw [HW0.out, HP0.out]
 go_upto_region 2 with fail
 (try simp only [List.append_eq, List.cons_append, List.nil_append])
 obtain ⟨sb, hsb⟩ := nam (stmtBad l)
 have HSB := Lib.hid hsb
 clear hsb
 go_cut [41] (fun v wx => v = .bool sb ∧ wx = p0.w)
 case first =>
  by_cases h0 : n < 1
  ·have hsb : sb = true := by rw [← HSB.out]; unfold stmtBad; rw [decide_eq_false (by have := HN.out; omega)]; rfl
   subst hsb
   have d0 : decide ((n : Int) < 1) = true := by simp; omega
   go_wp2_with fail
   go_meet
   exact ⟨rfl, rfl⟩
  by_cases h1 : 64 < n
  ·have hsb : sb = true := by rw [← HSB.out]; unfold stmtBad; rw [decide_eq_false (p := l.length ≤ 64) (by have := HN.out; omega)]; simp
   subst hsb
   have d0 : decide ((n : Int) < 1) = false := by simp; omega
   have d1 : decide ((64 : Int) < (n : Int)) = true := by simp; omega
   go_wp2_with fail
   go_meet
   exact ⟨rfl, rfl⟩
  obtain ⟨c, hc⟩ := get_some (l := l) (j := n - 1) (by have := HN.out; omega)
  obtain ⟨bb, off, cs, rfl, hbb, hcl, hcell, hic⟩ := HAT.out _ c hc
  have hk0 : p0.w.cell? ⟨bb, off + (n - 1) * 22, none⟩ = some (.int .i64 c.kind) := hcell p0 0 _ (cl_one (hic p0)).2.2
  have hidx : (((n : Int) - 1).toNat) = n - 1 := by omega
  have hwr : IntKind.i64.wrap ((n : Int) - 1) = (n : Int) - 1 := IntWalk.i64_in _ (by omega)
  have hi1 : (0 : Int) ≤ (n : Int) - 1 := by omega
  have hi2 : (n : Int) - 1 < (n : Int) := by omega
  have d0 : decide ((n : Int) < 1) = false := by simp; omega
  have d1 : decide ((64 : Int) < (n : Int)) = false := by simp; omega
  have hsb : sb = !(writesB c.kind || c.kind == 9) := by rw [← HSB.out]; unfold stmtBad; rw [lastM_get (by rw [HN.out]; exact hc), decide_eq_true (by have := HN.out; omega), decide_eq_true (by have := HN.out; omega)]; rfl
  obtain ⟨kd, hkd⟩ := nam c.kind
  rw [hkd] at hk0 hsb
  have HPW := Lib.hid (pwrites_any kd p0.w)
  obtain ⟨wb, hwb⟩ := nam (writesB kd)
  obtain ⟨kb, hkb⟩ := nam ((kd == 9))
  rw [hwb] at HPW hsb
  rw [hkb] at hsb
  subst hsb
  clear hcell hic hkd hwb hc
  have hkb' : (kd != 9) = !kb := by rw [← hkb]; rfl
  cases wb <;> cases kb <;>
    (go_wp2_with fail
     refine HPW.out.mono ?_
     rintro e w2 ⟨rfl, rfl⟩
     go_wp2_with fail
     go_meet
     exact ⟨rfl, rfl⟩)
 case rest =>
  obtain ⟨rfl, hwc⟩ := hcut
  subst hwc
  cases sb with
  | true =>
   have hq : Q = false := by rw [← HQ.out]; exact rightB_stmt HSB.out
   subst hq
   go_wp2_with fail
   go_ret
   exact ⟨rfl, HBE.out _⟩
  | false =>
   have HBAD : Hid (∀ (j : Nat) c, l[j]? = some c → clauseM c (decide (j + 1 < n)) = false → Q = false) := Lib.hid (fun j c h hc => by rw [← HQ.out]; exact rightB_bad h (by rw [HN.out]; exact hc))
   go_wp2_with fail
   go_loopw [45] (fun iv wr => ∃ j : Nat, iv = .int .i64 j ∧ j ≤ n ∧ Hid (∀ (i : Nat) c, i < j → l[i]? = some c → clauseM c (decide (i + 1 < n)) = true) ∧ ∃ u : Ext (w.heap.size + 1) W0, wr = u.w) (fun iv _ => n - (intOf iv).toNat)
   case atStart => exact ⟨0, rfl, Nat.zero_le _, Lib.hid (fun i c h => by omega), p0, rfl⟩
   case round =>
    obtain ⟨j, rfl, hj, HV, pu, rfl⟩ := hrel
    by_cases hlt : j < n
    ·have hlt' : (j : Int) < n := by omega
     have hj0 : (0 : Int) ≤ (j : Int) := by omega
     have hwi : IntKind.i64.wrap ((j : Int) + 1) = (j : Int) + 1 := IntWalk.i64_in _ (by omega)
     obtain ⟨c, hc⟩ := get_some (l := l) (j := j) (by have := HN.out; omega)
     have HC := Lib.hid hc
     have HWC : Hid (wtCl c ≤ 1048576) := Lib.hid (HW.out c (List.mem_of_getElem? hc))
     clear hc
     obtain ⟨bb, off, cs, rfl, hbb, hcl, hcell, hic⟩ := HAT.out j c HC.out
     have HRG : Hid (pu.w.rangeAt bb (off + j * 22) cs) := Lib.hid (fun q v hv => hcell pu q v hv)
     have hone := (cl_one (hic pu)).2
     obtain ⟨p1, hbx, hbb1, hbk, hlt1, hth⟩ := mk_box' pu HSZ.out [.int .i64 0, .slice none 0 0, .slice none 0 0, .int .i64 0, .string ⟨#[]⟩, .int .i64 0, .bool false, .int .i64 0, .string ⟨#[]⟩, .slice none 0 0, .slice none 0 0, .slice none 0 0, .slice none 0 0, .string ⟨#[]⟩, .slice none 0 0, .bool false, .slice none 0 0, .slice none 0 0, .slice none 0 0, .slice none 0 0, .slice none 0 0, .bool false] cs 71 hcl
     have HX1 := Lib.hid (show World.setCells _ _ 0 (cs.toArray).toList = p1.w from hbx)
     have HT1 : Hid (World.there _ pu.w.heap.size 0 cs.toArray.size) := Lib.hid hth
     have HONE := Lib.hid hone.1
     have HK1 := Lib.hid hbk
     have HRK : Hid (p1.w.rangeAt pu.w.heap.size 0 cs) := Lib.hid (rangeAt_block hbk)
     have hk1 : p1.w.cell? ⟨pu.w.heap.size, 0, none⟩ = some (.int .i64 c.kind) := hbk.cell hone.2
     have HGC := Lib.hid (HG c (List.mem_of_getElem? HC.out) cs B p1.w (hic p1) (by have := HB.out; have := (HBE.out p1).size; omega) HWC.out)
     have HCL := Lib.hid (show (Tryz.prog.info? 71).map (·.size) = some cs.length from by rw [hcl]; kernel_rfl)
     have HCL2 := Lib.hid (show (Tryz.prog.info? 71).map (·.size) = some cs.toArray.size from by rw [List.size_toArray, hcl]; kernel_rfl)
     clear hcell hic hone hbx hbb1 hbk hlt1 hth hcl hbb
     go_upto_region 7 with (first | (refine wpList_load_mid rfl 71 _ rfl bb (off + j * 22) rfl cs _ HRG.out Tryz.underlying71 rfl HCL.out ?_) | (refine wpList_store_mid rfl 71 _ _ rfl pu.w.heap.size 0 cs.toArray rfl rfl HT1.out HCL2.out HONE.out ?_))
     rw [HX1.out]
     go_wp2_with (refine wpList_load_mid rfl 71 _ rfl pu.w.heap.size 0 rfl cs _ HRK.out Tryz.underlying71 rfl HCL.out ?_)
     refine HGC.out.mono ?_
     rintro e w2 ⟨ga, gn, gc, rfl, hgn, hgs, hgr, hgb⟩
     obtain ⟨p2, hp2⟩ := ext_next p1 HSZ.out hgb
     subst hp2
     have hk2 : p2.w.cell? ⟨pu.w.heap.size, 0, none⟩ = some (.int .i64 c.kind) := by rw [hgb.cell (by show pu.w.heap.size < _; exact HK1.out.lt)]; exact hk1
     have HGN := Lib.hid hgn
     have hgsc : gn ≤ 9223372036854775807 := by have := hgs.1; omega
     have HGR := Lib.hid (hgr.row (by have := HB.out; have := (HBE.out p2).size; omega))
     clear hgn hgs hgr hgb hk1
     obtain ⟨kd, hkd⟩ := nam c.kind
     rw [hkd] at hk2
     have HKD := Lib.hid hkd
     clear hkd
     obtain ⟨gb, hgb⟩ := nam (groupsB c)
     rw [hgb]
     have HGB := Lib.hid hgb
     clear hgb
     obtain ⟨hb, hhb⟩ := nam (headBad c (decide (j + 1 < n)))
     have HHB := Lib.hid hhb
     clear hhb
     go_upto_region 8 with fail
     (try simp only [List.append_eq, List.cons_append, List.nil_append])
     go_cut [72] (fun v wx => v = .bool hb ∧ wx = p2.w)
     case first =>
      obtain ⟨q2, hq2⟩ : ∃ b, ((gn : Int) == 0) = b := ⟨_, rfl⟩
      obtain ⟨q3, hq3⟩ := nam ((kd == 9))
      obtain ⟨q4, hq4⟩ : ∃ b, decide ((j : Int) + 1 < (n : Int)) = b := ⟨_, rfl⟩
      have hhb : hb = (!gb || (q2 || (q3 && q4))) := by
       rw [← HHB.out]; unfold headBad; rw [HGB.out, HKD.out, hq3, ← hq4]
       rw [show (groupsL c).isEmpty = q2 from by rw [← hq2, HGN.out]; exact isEmpty_len _]
       rw [show decide (j + 1 < n) = decide ((j : Int) + 1 < (n : Int)) from by rw [decide_eq_decide]; omega]
      subst hhb
      cases gb <;> cases q2 <;> cases q3 <;> cases q4 <;>
        (go_wp2_with fail
         go_meet
         exact ⟨rfl, rfl⟩)
     case rest =>
      obtain ⟨rfl, hwc⟩ := hcut
      subst hwc
      cases hb with
      | true =>
       have hq : Q = false := HBAD.out j c HC.out (clauseM_head HHB.out)
       subst hq
       go_wp2_with fail
       go_ret
       exact ⟨rfl, HBE.out _⟩
      | false =>
       obtain ⟨C2, hC2⟩ := nam p2.w.heap.size
       have HC2 := Lib.hid hC2
       clear hC2
       have HBE2 : Hid (∀ v : Ext p2.w.heap.size p2.w, Below w.heap.size w v.w) := Lib.hid (fun v => (HBE.out p2).trans (v.below.mono (HBE.out p2).size))
       have HML2 : Hid (∀ v : Ext p2.w.heap.size p2.w, ML v.w) := Lib.hid (fun v => (HML.out p2).below v.below)
       have HAT2 : Hid (∀ (k : Nat) g, (groupsL c)[k]? = some g → ∃ bb off cs, ga = some ⟨bb, off, none⟩ ∧ bb < p2.w.heap.size ∧ cs.length = 4 ∧ (∀ (v : Ext p2.w.heap.size p2.w) (q : Nat) x, cs[q]? = some x → v.w.cell? ⟨bb, off + k * 4 + q, none⟩ = some x) ∧ ∀ v : Ext p2.w.heap.size p2.w, IsGr p2.w.heap.size v.w cs g) := Lib.hid (fun k g hg => HGR.out.at_gen (R := fun v => IsGr p2.w.heap.size v) (f := fun v : Ext p2.w.heap.size p2.w => v.w) (Nat.le_refl _) (fun v => v.below) (fun v cs x h => h.below v.below (Nat.le_refl _)) hg)
       go_wp2_with fail
       go_loopw [75] (fun iv wr => ∃ k : Nat, iv = .int .i64 k ∧ k ≤ gn ∧ Hid (∀ (i : Nat) g, i < k → (groupsL c)[i]? = some g → groupM g = true) ∧ ∃ v : Ext p2.w.heap.size p2.w, wr = v.w) (fun iv _ => gn - (intOf iv).toNat)
       case atStart =>
        obtain ⟨v, hv⟩ := Ext.start p2.w.heap.size p2.w
        exact ⟨0, rfl, Nat.zero_le _, Lib.hid (fun i g h => by omega), v, hv⟩
       case round =>
        obtain ⟨k, rfl, hk, HV2, v, rfl⟩ := hrel
        by_cases hlt2 : k < gn
        ·have hlt2' : (k : Int) < gn := by omega
         have hk0 : (0 : Int) ≤ (k : Int) := by omega
         have hwk : IntKind.i64.wrap ((k : Int) + 1) = (k : Int) + 1 := IntWalk.i64_in _ (by omega)
         obtain ⟨g, hg⟩ := get_some (l := groupsL c) (j := k) (by have := HGN.out; omega)
         have HGK := Lib.hid hg
         have HWG : Hid (∀ p ∈ g.parts, wtPart p ≤ 1048576) := Lib.hid (fun p hp => Nat.le_trans (groups_wt c g (List.mem_of_getElem? hg) p hp) HWC.out)
         clear hg
         obtain ⟨gbb, goff, gcs, rfl, hgbb, hgl4, hgcell, hgr⟩ := HAT2.out k g HGK.out
         have hgr0 : IsGr p2.w.heap.size p2.w gcs g := hgr ⟨p2.w, Below.refl _ _⟩
         obtain ⟨pa, pc, rfl, hps, hpr⟩ := hgr0
         obtain ⟨word, parts, least, most⟩ := g
         simp only at hps hpr hgcell HWG
         obtain ⟨pn, hpn⟩ := nam parts.length
         rw [hpn] at hps hgcell
         have HPN := Lib.hid hpn
         clear hpn
         have g0 : v.w.cell? ⟨gbb, goff + k * 4, none⟩ = some _ := hgcell v 0 _ rfl
         have g1 := hgcell v 1 _ rfl
         have g2 := hgcell v 2 _ rfl
         have g3 := hgcell v 3 _ rfl
         obtain ⟨v1, hal, hvb, hbk, hvl⟩ := mk_alloc v (Nat.le_refl _) [.string word, .slice pa pn pc, .int .i64 least, .int .i64 most] 103
         have HXv1 := Lib.hid hal
         have b0 : v1.w.cell? ⟨v.w.heap.size, 0, none⟩ = some _ := hbk.cell (i := 0) rfl
         have b1 : v1.w.cell? ⟨v.w.heap.size, 1, none⟩ = some _ := hbk.cell (i := 1) rfl
         have b2 : v1.w.cell? ⟨v.w.heap.size, 2, none⟩ = some _ := hbk.cell (i := 2) rfl
         have b3 : v1.w.cell? ⟨v.w.heap.size, 3, none⟩ = some _ := hbk.cell (i := 3) rfl
         have hpsc : pn ≤ 9223372036854775807 := by have := hps.1; omega
         have HPR := Lib.hid hpr
         clear hal hvb hbk hvl hgcell hgr hps hpr hgl4 hgbb
         go_upto_region 13 with fail
         rw [HXv1.out]
         clear g0 g1 g2 g3
         by_cases h5 : (pn : Int) < least
         ·have d5 : decide ((pn : Int) < least) = true := decide_eq_true h5
          have hq : Q = false := HBAD.out j c HC.out (clauseM_bad HGK.out (groupM_few (by show (parts.length : Int) < least; rw [HPN.out]; exact h5)))
          subst hq
          go_wp2_with fail
          go_ret
          exact ⟨rfl, HBE2.out _⟩
         have d5 : decide ((pn : Int) < least) = false := decide_eq_false h5
         by_cases h6 : most < (pn : Int)
         ·have d6 : decide (most < (pn : Int)) = true := decide_eq_true h6
          have hq : Q = false := HBAD.out j c HC.out (clauseM_bad HGK.out (groupM_many (by show most < (parts.length : Int); rw [HPN.out]; exact h6)))
          subst hq
          go_wp2_with fail
          go_ret
          exact ⟨rfl, HBE2.out _⟩
         have d6 : decide (most < (pn : Int)) = false := decide_eq_false h6
         go_wp2_with fail
         go_loopw [96] (fun iv wr => ∃ m : Nat, iv = .int .i64 m ∧ m ≤ pn ∧ Hid (∀ (i : Nat) p, i < m → parts[i]? = some p → partM p = true) ∧ ∃ v : Ext p2.w.heap.size p2.w, wr = v.w) (fun iv _ => pn - (intOf iv).toNat)
         case atStart => exact ⟨0, rfl, Nat.zero_le _, Lib.hid (fun i p h => by omega), v1, rfl⟩
         case round =>
          obtain ⟨m, rfl, hm, HV3, v2, rfl⟩ := hrel
          by_cases hlt3 : m < pn
          ·have hlt3' : (m : Int) < pn := by omega
           have hm0 : (0 : Int) ≤ (m : Int) := by omega
           have hwm : IntKind.i64.wrap ((m : Int) + 1) = (m : Int) + 1 := IntWalk.i64_in _ (by omega)
           obtain ⟨p, hp⟩ := get_some (l := parts) (j := m) (by have := HPN.out; omega)
           have HPM := Lib.hid hp
           have hwp := HWG.out p (List.mem_of_getElem? hp)
           obtain ⟨vs, hcs, hvl, hvp⟩ := HPR.out
           obtain ⟨pv0, hpv, hip⟩ := hvp m p hp
           rcases hcs with hcs | ⟨pb, po, rfl, hpb, hpc⟩
           ·rw [hcs] at hpv; cases hpv
           have hcp : v2.w.cell? ⟨pb, po + m, none⟩ = some pv0 := by rw [v2.below.cell (by show pb < _; exact hpb)]; exact hpc m _ hpv
           obtain ⟨tid, pv, f, rfl, hmeth, hcf, hcall⟩ := may_call p pv0 p2.w.heap.size v2.w (hip.below v2.below (Nat.le_refl _)) v2.below.size (HML2.out v2) hwp
           have HCALL := Lib.hid hcall
           clear hcall hvl hvp hpv hip hpc hpb hp hwp
           obtain ⟨pq, hpq⟩ := nam (partM p)
           rw [hpq] at HCALL
           have HPQ := Lib.hid hpq
           clear hpq
           go_wp2_with fail
           refine HCALL.out.mono ?_
           rintro e w4 ⟨rfl, hb4⟩
           obtain ⟨v3, hv3⟩ : ∃ v3 : Ext p2.w.heap.size p2.w, w4 = v3.w := ext_next v2 (Nat.le_refl _) hb4
           subst hv3
           clear hb4 hcp
           cases pq with
           | false =>
            have hq : Q = false := HBAD.out j c HC.out (clauseM_bad HGK.out (groupM_bad HPM.out HPQ.out))
            subst hq
            go_wp2_with fail
            go_ret
            exact ⟨rfl, HBE2.out _⟩
           | true =>
            go_wp2_with fail
            go_roundw
            case rel => exact ⟨m + 1, by go_num, by omega, Lib.hid (fun i y hi hy => (Nat.lt_or_ge i m).elim (fun h => HV3.out i y h hy) (fun h => by rw [show i = m from by omega, HPM.out] at hy; rw [← Option.some.inj hy]; exact HPQ.out)), v3, rfl⟩
            case measure => simp [intOf]; omega
          ·have hlt3' : ¬ (m : Int) < pn := by omega
           have HGG : Hid (groupM ⟨word, parts, least, most⟩ = true) := Lib.hid (groupM_good (by show ¬ (parts.length : Int) < least; have := HPN.out; omega) (by show ¬ most < (parts.length : Int); have := HPN.out; omega) (fun i p hp => HV3.out i p (by have h1 := (List.getElem?_eq_some_iff.1 hp).1; have h2 := HPN.out; simp only at h1; omega) hp))
           go_wp2_with fail
           go_roundw
           case rel => exact ⟨k + 1, by go_num, by omega, Lib.hid (fun i y hi hy => (Nat.lt_or_ge i k).elim (fun h => HV2.out i y h hy) (fun h => by rw [show i = k from by omega, HGK.out] at hy; rw [← Option.some.inj hy]; exact HGG.out)), v2, rfl⟩
           case measure => simp [intOf]; omega
        ·have hlt2' : ¬ (k : Int) < gn := by omega
         have HCG : Hid (clauseM c (decide (j + 1 < n)) = true) := Lib.hid (clauseM_good HHB.out (fun i g hg => HV2.out i g (by have h1 := (List.getElem?_eq_some_iff.1 hg).1; have h2 := HGN.out; omega) hg))
         obtain ⟨p3, hp3⟩ := ext_next p2 HSZ.out v.below
         have HU3 := Lib.hid hp3
         clear hp3
         go_wp2_with fail
         go_roundw
         case rel => exact ⟨j + 1, by go_num, by omega, Lib.hid (fun i y hi hy => (Nat.lt_or_ge i j).elim (fun h => HV.out i y h hy) (fun h => by (obtain rfl : i = j := by omega); rw [HC.out] at hy; rw [← Option.some.inj hy]; exact HCG.out)), p3, HU3.out⟩
         case measure => simp [intOf]; omega
    ·have hlt' : ¬ (j : Int) < n := by omega
     have hq : Q = true := by rw [← HQ.out]; exact rightB_good HSB.out (fun i c hc => by rw [HN.out]; exact HV.out i c (by have h1 := (List.getElem?_eq_some_iff.1 hc).1; have h2 := HN.out; omega) hc)
     subst hq
     go_wp2_with fail
     go_ret
     exact ⟨rfl, HBE.out _⟩
theorem flatS_get {size : Nat} : ∀ (css : List (List Value)) (i j : Nat) (cs : List Value) (v : Value), (∀ cs ∈ css, cs.length = size) → css[i]? = some cs → cs[j]? = some v → css.flatten[i * size + j]? = some v
  | [], _, _, _, _, _, h, _ => by simp at h
  | c :: r, 0, j, cs, v, hl, h, hv => by
    simp only [List.getElem?_cons_zero] at h
    have h := Option.some.inj h
    subst h
    rw [List.flatten_cons, Nat.zero_mul, Nat.zero_add, List.getElem?_append_left (List.getElem?_eq_some_iff.1 hv).1]
    exact hv
  | c :: r, i + 1, j, cs, v, hl, h, hv => by
    have h4 := hl c (List.mem_cons_self ..)
    rw [List.getElem?_cons_succ] at h
    rw [List.flatten_cons, List.getElem?_append_right (by rw [Nat.add_mul, Nat.one_mul]; omega), h4, show (i + 1) * size + j - size = i * size + j from by rw [Nat.add_mul, Nat.one_mul]; omega]
    exact flatS_get r i j cs v (fun cs hc => hl cs (List.mem_cons_of_mem _ hc)) h hv
inductive AllR {α : Type} (R : List Value → α → Prop) (size : Nat) : List (List Value) → List α → Prop where
  | nil : AllR R size [] []
  | cons {cs x css l} (h : R cs x) (hl : cs.length = size) (hs : AllR R size css l) : AllR R size (cs :: css) (x :: l)
theorem AllR.lens {α : Type} {R : List Value → α → Prop} {size : Nat} {css : List (List Value)} {l : List α} (h : AllR R size css l) : ∀ cs ∈ css, cs.length = size := by
 induction h with
 | nil => intro cs hc; simp at hc
 | cons h hl hs ih =>
  intro cs hc
  rcases List.mem_cons.1 hc with rfl | hc
  ·exact hl
  ·exact ih cs hc
theorem AllR.get {α : Type} {R : List Value → α → Prop} {size : Nat} {css : List (List Value)} {l : List α} (h : AllR R size css l) : ∀ (i : Nat) x, l[i]? = some x → ∃ cs, css[i]? = some cs ∧ cs.length = size ∧ R cs x := by
 induction h with
 | nil => intro i g hg; simp at hg
 | cons h hl hs ih =>
  intro i g hg
  cases i with
  | zero => simp only [List.getElem?_cons_zero, Option.some.injEq] at hg; subst hg; exact ⟨_, rfl, hl, h⟩
  | succ i => rw [List.getElem?_cons_succ] at hg; exact ih i g hg
theorem rowR_block {α : Type} {R : List Value → α → Prop} {size B : Nat} {w : World} {b : Nat} {t : TypeId} {cells : List Value} {css : List (List Value)} {l : List α} (hb : Block w b cells t) (hc : cells = css.flatten) (hbB : b < B) (h : AllR R size css l) : RowR R size B w (some ⟨b, 0, none⟩) l := by
 intro i x hx
 obtain ⟨cs, h1, h2, h3⟩ := h.get i x hx
 refine ⟨b, 0, cs, rfl, hbB, h2, fun j v hv => ?_, h3⟩
 rw [Nat.zero_add]
 exact hb.cell (by rw [hc]; exact flatS_get css i j cs v h.lens h1 hv)
def exC (op : Int) (nm : ByteArray) (xa : Option Addr) (n : Nat) : List Value := [.int .i64 op, .string nm, .int .i64 0, .bool false, .int .i64 0, .string ⟨#[]⟩, .slice none 0 0, .slice none 0 0, .slice none 0 0, .slice xa n n]
theorem args_isX {B : Nat} {w : World} {op : Int} {nm : ByteArray} {xa : Option Addr} {az : List Ex} (ho : in64 op) (hs : SlOk xa az.length az.length) (hr : RowR (IsX B w) 10 B w xa az) : IsX B w (exC op nm xa az.length) (.mk op nm emptyV [] az) := by
 unfold IsX
 exact ⟨zeroC, none, 0, xa, az.length, rfl, ho, empty_isV _ _, nil_sl, hs, Cells.nil, isXs_iff.2 hr⟩
end Go.Proofs.YteljlahcdipilaaGreat

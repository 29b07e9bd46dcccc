/- Parts X36, X57 of this seat (pruned, scripts that are alike kept once as default arguments: q1, q2, ..). Conditions: each says its own. -/
import Derived.Test.YtndhpdclpgemfaaGreatW14
namespace Go.Proofs.YtndhpdclpgemfaaGreat
open Go.RowKit Go.Shelf
set_option linter.unusedSimpArgs false
set_option linter.unusedVariables false
set_option maxRecDepth 100000
def partsX (w : List UInt8) : Bool → List Part → List UInt8
  | _, [] => []
  | first, p :: ps => (if first = true then w else [44, 32]) ++ (partX p ++ partsX w false ps)
def groupX (g : Grt) : List UInt8 := partsX g.word.data.toList true g.parts
def clauseX (c : Clt) : List UInt8 := (groupsL c).flatMap groupX
def clTail : Bool → List Clt → List UInt8
  | _, [] => []
  | first, c :: cs => (if first = true then [] else [32]) ++ (clauseX c ++ clTail false cs)
def stmtX (l : List Clt) : List UInt8 := clTail true l
theorem ba_len (s : ByteArray) : s.data.toList.length = s.size := by simp
theorem sum_take_le {α : Type} (f : α → Nat) (l : List α) (j : Nat) : ((l.take j).map f).sum ≤ (l.map f).sum := by
 have h1 : l = l.take j ++ l.drop j := (List.take_append_drop _ _).symm
 have h2 : (l.map f).sum = ((l.take j).map f).sum + ((l.drop j).map f).sum := by rw [← List.sum_append, ← List.map_append, ← h1]
 omega
theorem partX_len (p : Part) : (partX p).length ≤ 64 * wtPart p + 16 := by
 cases p with
 | ex t => have := textX_len t; simp only [partX, wtPart]; omega
 | nm s => have := ba_len s; simp only [partX, wtPart]; omega
 | pt p =>
  have h := pathPre_len p.nodes p.edges p.nodes.length
  have h1 := sum_take_le wtNp p.nodes p.nodes.length
  have h2 := sum_take_le wtEp p.edges (p.nodes.length - 1)
  simp only [partX, wtPart, pathX, wtPt]; omega
 | it i =>
  have h := textX_len i.e
  have h1 := ba_len i.nm
  simp only [partX, wtPart, itemX, wtIt, List.length_append]
  split
  ·simp only [List.length_append, List.length_cons, List.length_nil]; omega
  ·simp only [List.length_nil]; omega
 | so s =>
  have h := textX_len s.e
  simp only [partX, wtPart, sortX, wtSo, List.length_append]
  split <;> simp only [List.length_cons, List.length_nil] <;> omega
 | si s st =>
  have h := textX_len s.e
  have h1 := ba_len s.var
  have h2 := keyTL_len s.key
  have h3 := labX_len s.label
  simp only [partX, wtPart, setX, wtSi, List.length_append]
  split
  ·simp only [List.length_append, List.length_cons, List.length_nil]
   split <;> simp only [List.length_append, List.length_cons, List.length_nil] <;> omega
  ·omega
theorem partsX_len (w : List UInt8) : ∀ (f : Bool) (ps : List Part), (partsX w f ps).length ≤ w.length + 64 * (ps.map wtPart).sum + 18 * ps.length
  | _, [] => by simp [partsX]
  | f, p :: ps => by
    have h := partsX_len w false ps
    have h1 := partX_len p
    have h2 : (partsX w false ps).length ≤ 64 * (ps.map wtPart).sum + 18 * ps.length + w.length := by omega
    have h3 : ∀ ps : List Part, (partsX w false ps).length ≤ 64 * (ps.map wtPart).sum + 18 * ps.length := by
      intro ps
      induction ps with
      | nil => simp [partsX]
      | cons q qs ih =>
        have h4 := partX_len q
        simp only [partsX, List.length_append, List.map_cons, List.sum_cons, List.length_cons, Bool.false_eq_true, if_false, List.length_nil]
        omega
    have h5 := h3 ps
    cases f <;> simp only [partsX, List.length_append, List.map_cons, List.sum_cons, List.length_cons, Bool.false_eq_true, if_false, if_true, List.length_nil] <;> omega
theorem groups_sum (c : Clt) : (groupsL c).length ≤ 5 ∧ ∀ g ∈ groupsL c, (g.parts.map wtPart).sum ≤ wtCl c ∧ g.parts.length ≤ wtCl c ∧ g.word.size ≤ 16 := by
 have hs : ∀ {α : Type} (f : α → Part) (l : List α), ((l.map f).map wtPart).sum = (l.map fun x => wtPart (f x)).sum := fun f l => by rw [List.map_map]; rfl
 have h1 := len_sum (f := wtPt) (fun x => by unfold wtPt; omega) c.paths
 have h2 := wtXs_len c.whr
 have h3 := len_sum (f := wtIt) (fun x => by unfold wtIt; omega) c.items
 have h4 := len_sum (f := wtSo) (fun x => by unfold wtSo; omega) c.order
 have h5 := wtXs_len c.skip
 have h6 := wtXs_len c.limit
 have h7 := len_sum (f := wtSi) (fun x => by unfold wtSi; omega) c.sets
 have h8 := wtS_len c.vars
 have g1 : ((c.paths.map Part.pt).map wtPart).sum ≤ wtCl c ∧ (c.paths.map Part.pt).length ≤ wtCl c := by rw [hs, List.length_map]; show (c.paths.map wtPt).sum ≤ _ ∧ _; unfold wtCl; omega
 have g2 : ((c.whr.map Part.ex).map wtPart).sum ≤ wtCl c ∧ (c.whr.map Part.ex).length ≤ wtCl c := by rw [hs, List.length_map]; show (c.whr.map wtX).sum ≤ _ ∧ _; rw [← wtXs_sum]; unfold wtCl; omega
 have g3 : ((c.items.map Part.it).map wtPart).sum ≤ wtCl c ∧ (c.items.map Part.it).length ≤ wtCl c := by rw [hs, List.length_map]; show (c.items.map wtIt).sum ≤ _ ∧ _; unfold wtCl; omega
 have g4 : ((c.order.map Part.so).map wtPart).sum ≤ wtCl c ∧ (c.order.map Part.so).length ≤ wtCl c := by rw [hs, List.length_map]; show (c.order.map wtSo).sum ≤ _ ∧ _; unfold wtCl; omega
 have g5 : ((c.skip.map Part.ex).map wtPart).sum ≤ wtCl c ∧ (c.skip.map Part.ex).length ≤ wtCl c := by rw [hs, List.length_map]; show (c.skip.map wtX).sum ≤ _ ∧ _; rw [← wtXs_sum]; unfold wtCl; omega
 have g6 : ((c.limit.map Part.ex).map wtPart).sum ≤ wtCl c ∧ (c.limit.map Part.ex).length ≤ wtCl c := by rw [hs, List.length_map]; show (c.limit.map wtX).sum ≤ _ ∧ _; rw [← wtXs_sum]; unfold wtCl; omega
 have g7 : ((c.sets.map (fun s => Part.si s (c.kind == 6))).map wtPart).sum ≤ wtCl c ∧ (c.sets.map (fun s => Part.si s (c.kind == 6))).length ≤ wtCl c := by rw [hs, List.length_map]; show (c.sets.map wtSi).sum ≤ _ ∧ _; unfold wtCl; omega
 have g8 : ((c.vars.map Part.nm).map wtPart).sum ≤ wtCl c ∧ (c.vars.map Part.nm).length ≤ wtCl c := by
  rw [hs, List.length_map]
  have h9 : ∀ l : List ByteArray, (l.map fun x => x.size).sum ≤ wtS l := by
   intro l; unfold wtS; induction l with
   | nil => simp
   | cons x l ih => simp only [List.map_cons, List.sum_cons]; omega
  have h10 := h9 c.vars
  show (c.vars.map fun x => x.size).sum ≤ _ ∧ _
  unfold wtCl; omega
 have gE : ([Part.ex c.e].map wtPart).sum ≤ wtCl c ∧ [Part.ex c.e].length ≤ wtCl c := by
  simp only [List.map_cons, List.map_nil, List.sum_cons, List.sum_nil, wtPart, List.length_cons, List.length_nil]; unfold wtCl; omega
 have gV : ([Part.nm c.var].map wtPart).sum ≤ wtCl c ∧ [Part.nm c.var].length ≤ wtCl c := by
  simp only [List.map_cons, List.map_nil, List.sum_cons, List.sum_nil, wtPart, List.length_cons, List.length_nil]; unfold wtCl; omega
 have hu : (uniqW c).size ≤ 9 := by unfold uniqW; split <;> decide
 have hN : ∀ g ∈ ([] : List Grt), (g.parts.map wtPart).sum ≤ wtCl c ∧ g.parts.length ≤ wtCl c ∧ g.word.size ≤ 16 := fun g hg => by simp at hg
 have hT : ∀ g ∈ tailG c, (g.parts.map wtPart).sum ≤ wtCl c ∧ g.parts.length ≤ wtCl c ∧ g.word.size ≤ 16 := List.forall_mem_cons.2 ⟨⟨g4.1, g4.2, by show (⟨#[32, 79, 82, 68, 69, 82, 32, 66, 89, 32]⟩ : ByteArray).size ≤ 16; decide⟩, List.forall_mem_cons.2 ⟨⟨g5.1, g5.2, by show (⟨#[32, 83, 75, 73, 80, 32]⟩ : ByteArray).size ≤ 16; decide⟩, List.forall_mem_cons.2 ⟨⟨g6.1, g6.2, by show (⟨#[32, 76, 73, 77, 73, 84, 32]⟩ : ByteArray).size ≤ 16; decide⟩, hN⟩⟩⟩
 have hWh : (whereG c).word.size ≤ 16 := by show (⟨#[32, 87, 72, 69, 82, 69, 32]⟩ : ByteArray).size ≤ 16; decide
 unfold groupsL
 by_cases k1 : c.kind = 1
 ·rw [if_pos k1]; exact ⟨by simp, List.forall_mem_cons.2 ⟨⟨g1.1, g1.2, by show (⟨#[77, 65, 84, 67, 72, 32]⟩ : ByteArray).size ≤ 16; decide⟩, List.forall_mem_cons.2 ⟨⟨g2.1, g2.2, hWh⟩, hN⟩⟩⟩
 rw [if_neg k1]
 by_cases k2 : c.kind = 2
 ·rw [if_pos k2]; exact ⟨by simp, List.forall_mem_cons.2 ⟨⟨gE.1, gE.2, by show (⟨#[85, 78, 87, 73, 78, 68, 32]⟩ : ByteArray).size ≤ 16; decide⟩, List.forall_mem_cons.2 ⟨⟨gV.1, gV.2, by show (⟨#[32, 65, 83, 32]⟩ : ByteArray).size ≤ 16; decide⟩, hN⟩⟩⟩
 rw [if_neg k2]
 by_cases k3 : c.kind = 3
 ·rw [if_pos k3]
  refine ⟨by simp [tailG], List.forall_mem_cons.2 ⟨⟨g3.1, g3.2, ?_⟩, fun g hg => ?_⟩⟩
  ·show ((⟨#[87, 73, 84, 72, 32]⟩ : ByteArray) ++ uniqW c).size ≤ 16
   rw [ByteArray.size_append]; have : (⟨#[87, 73, 84, 72, 32]⟩ : ByteArray).size = 5 := rfl; omega
  ·rcases List.mem_append.1 hg with hg | hg
   ·exact hT g hg
   ·rw [List.mem_singleton.1 hg]; exact ⟨g2.1, g2.2, hWh⟩
 rw [if_neg k3]
 by_cases k9 : c.kind = 9
 ·rw [if_pos k9]
  refine ⟨by simp [tailG], List.forall_mem_cons.2 ⟨⟨g3.1, g3.2, ?_⟩, hT⟩⟩
  show ((⟨#[82, 69, 84, 85, 82, 78, 32]⟩ : ByteArray) ++ uniqW c).size ≤ 16
  rw [ByteArray.size_append]; have : (⟨#[82, 69, 84, 85, 82, 78, 32]⟩ : ByteArray).size = 7 := rfl; omega
 rw [if_neg k9]
 by_cases k4 : c.kind = 4
 ·rw [if_pos k4]; exact ⟨by simp, List.forall_mem_cons.2 ⟨⟨g1.1, g1.2, by show (⟨#[67, 82, 69, 65, 84, 69, 32]⟩ : ByteArray).size ≤ 16; decide⟩, hN⟩⟩
 rw [if_neg k4]
 by_cases k5 : c.kind = 5
 ·rw [if_pos k5]
  by_cases hm : mergeBad c = true
  ·rw [if_pos hm]; exact ⟨by simp, hN⟩
  ·rw [if_neg hm]; exact ⟨by simp, List.forall_mem_cons.2 ⟨⟨g1.1, g1.2, by show (⟨#[77, 69, 82, 71, 69, 32]⟩ : ByteArray).size ≤ 16; decide⟩, hN⟩⟩
 rw [if_neg k5]
 by_cases k6 : c.kind = 6
 ·rw [if_pos k6]; exact ⟨by simp, List.forall_mem_cons.2 ⟨⟨g7.1, g7.2, by show (⟨#[83, 69, 84, 32]⟩ : ByteArray).size ≤ 16; decide⟩, hN⟩⟩
 rw [if_neg k6]
 by_cases k7 : c.kind = 7
 ·rw [if_pos k7]; exact ⟨by simp, List.forall_mem_cons.2 ⟨⟨g7.1, g7.2, by show (⟨#[82, 69, 77, 79, 86, 69, 32]⟩ : ByteArray).size ≤ 16; decide⟩, hN⟩⟩
 rw [if_neg k7]
 by_cases k8 : c.kind = 8
 ·rw [if_pos k8]; exact ⟨by simp, List.forall_mem_cons.2 ⟨⟨g8.1, g8.2, by show (if c.detach = true then (⟨#[68, 69, 84, 65, 67, 72, 32, 68, 69, 76, 69, 84, 69, 32]⟩ : ByteArray) else ⟨#[68, 69, 76, 69, 84, 69, 32]⟩).size ≤ 16; split <;> decide⟩, hN⟩⟩
 rw [if_neg k8]
 exact ⟨by simp, hN⟩
theorem flat_len {α : Type} {f : α → List UInt8} {l : List α} {K : Nat} (h : ∀ x ∈ l, (f x).length ≤ K) : (l.flatMap f).length ≤ l.length * K := by
 induction l with
 | nil => simp
 | cons x l ih =>
  have h1 := h x (List.mem_cons_self ..)
  have h2 := ih (fun y hy => h y (List.mem_cons_of_mem _ hy))
  simp only [List.flatMap_cons, List.length_append, List.length_cons, Nat.add_mul, Nat.one_mul]
  omega
theorem clauseX_len (c : Clt) : (clauseX c).length ≤ 5 * (16 + 82 * wtCl c) := by
 obtain ⟨h1, h2⟩ := groups_sum c
 have h3 : ∀ g ∈ groupsL c, (groupX g).length ≤ 16 + 82 * wtCl c := fun g hg => by
  obtain ⟨h4, h5, h6⟩ := h2 g hg
  have h7 := partsX_len g.word.data.toList true g.parts
  rw [ba_len] at h7
  unfold groupX; omega
 exact Nat.le_trans (flat_len h3) (Nat.mul_le_mul_right _ h1)
theorem clTail_len : ∀ (f : Bool) (l : List Clt), (clTail f l).length ≤ 491 * (l.map wtCl).sum
  | _, [] => by simp [clTail]
  | f, c :: cs => by
    have h := clTail_len false cs
    have h1 := clauseX_len c
    have h2 : 1 ≤ wtCl c := by unfold wtCl; omega
    cases f <;> simp only [clTail, List.length_append, List.map_cons, List.sum_cons, List.length_cons, Bool.false_eq_true, if_false, if_true, List.length_nil] <;> omega
theorem stmtX_len (s : Smt) (h : wtSm s ≤ 1048576) : (stmtX s.clauses).length ≤ 549755813888 := by
 have := clTail_len true s.clauses
 unfold wtSm at h; unfold stmtX; omega
def scanOk : ScanR → Bool
  | .ok _ => true
  | .bad _ x => x == 0
def printE (s : Smt) : Int := if rightB s = true then (if scanOk (scanL (stmtX s.clauses)) = true then 0 else 8) else 20
def printT (s : Smt) : ByteArray := if rightB s = true then (if scanOk (scanL (stmtX s.clauses)) = true then strOf (stmtX s.clauses) else ⟨#[]⟩) else ⟨#[]⟩
/-! Worlds that a builder's writers leave. -/
def Kp.trans {B b : Nat} {W : World} (u : Kp B b W) (v : Kp B b u.w) : Kp B b W := ⟨v.w, u.below.trans v.below, u.kept.trans v.kept⟩
theorem kp_block {B b : Nat} {W : World} (u : Kp B b W) {k : Nat} {cur : List Value} {t : TypeId} (h : Block W k cur t) (ht : t ≠ 5) (hk : k ≠ b) : Block u.w k cur t :=
  u.kept k _ h (fun e => hk (Option.some.inj e)) (fun c fz e => ht (by injection e))
theorem kp_next {B b : Nat} {W w2 : World} (u : Kp B b W) (hB : B ≤ W.heap.size) (hb : Below u.w.heap.size u.w w2) : ∃ v : Kp B b W, w2 = v.w :=
  ⟨⟨w2, u.below.trans (hb.mono (Nat.le_trans hB u.below.size)), u.kept.trans (others_below hb)⟩, rfl⟩
theorem PartT.kp {B C b : Nat} {W : World} {a : Option Addr} {ps : List Part} (h : PartT B W a ps) (u : Kp C b W) (hB : B ≤ C) (hb : ∃ cur, W.heap[b]? = some (.cells cur 74 (0, 0))) : PartT B u.w a ps := by
 obtain ⟨vs, h1, h2, h3⟩ := h
 refine ⟨vs, h1.imp id ?_, h2, fun i p hp => by obtain ⟨v, h4, h5⟩ := h3 i p hp; exact ⟨v, h4, h5.below (u.below.mono hB) (Nat.le_refl _)⟩⟩
 rintro ⟨g, h4, h5, ⟨cur, h6⟩, h7⟩
 have hne : g ≠ b := by
  rintro rfl
  obtain ⟨c2, h8⟩ := hb
  rw [h6] at h8
  injection h8 with h8
  injection h8 with _ h9
  exact absurd h9 (by decide)
 have hk : u.w.heap[g]? = some (.cells cur 85 (0, 0)) := u.kept g _ h6 (fun e => hne (Option.some.inj e)) (fun c fz e => by injection e with _ h9; exact absurd h9 (by decide))
 refine ⟨g, h4, (Array.getElem?_eq_some_iff.1 hk).1, ⟨cur, hk⟩, fun k v hv => ?_⟩
 rw [← h7 k v hv]
 simp only [World.cell?, hk, h6]
theorem GRow.kp {B C b : Nat} {W : World} {a : Option Addr} {gs : List Grt} (h : GRow B W a gs) (u : Kp C b W) (hB : B ≤ C) (hb : ∃ cur, W.heap[b]? = some (.cells cur 74 (0, 0))) : GRow B u.w a gs := by
 intro i g hg
 obtain ⟨k, cs, h1, h2, ⟨cur, h3⟩, h4, pa, pc, h5, h6, h7⟩ := h i g hg
 have hne : k ≠ b := by
  rintro rfl
  obtain ⟨c2, h8⟩ := hb
  rw [h3] at h8
  injection h8 with h8
  injection h8 with _ h9
  exact absurd h9 (by decide)
 have hk : u.w.heap[k]? = some (.cells cur 83 (0, 0)) := u.kept k _ h3 (fun e => hne (Option.some.inj e)) (fun c fz e => by injection e with _ h9; exact absurd h9 (by decide))
 refine ⟨k, cs, h1, (Array.getElem?_eq_some_iff.1 hk).1, ⟨cur, hk⟩, fun j v hv => ?_, pa, pc, h5, h6, h7.kp u hB hb⟩
 rw [← h4 j v hv]
 simp only [World.cell?, hk, h3]
theorem bld_there {B b : Nat} {l : List UInt8} {w : World} (h : Bld B b l w) : ∃ cur, w.heap[b]? = some (.cells cur 74 (0, 0)) := by
 unfold Bld Lib.IsBuilderF at h
 rcases h with ⟨hB, v, h1, h2, h3⟩ | ⟨hB, v, h1, h2, h3⟩ <;> exact ⟨_, h1⟩
theorem kp_box {B b : Nat} {W : World} (u : Kp B b W) (hB : B ≤ W.heap.size) (l : List UInt8) (hl : Bld B b l u.w) (zs vals : List Value) (t : TypeId) (hv : vals.length = zs.length) :
    ∃ u2 : Kp B b W, (u.w.alloc (.cells zs.toArray t)).setCells u.w.heap.size 0 vals = u2.w ∧ Bld B b l u2.w ∧ Block u2.w u.w.heap.size vals t ∧ u.w.heap.size ≠ b ∧ (u.w.alloc (.cells zs.toArray t)).there u.w.heap.size 0 vals.length := by
 obtain ⟨e, he⟩ := Ext.start u.w.heap.size u.w
 obtain ⟨e2, h1, h2, h3, h4, h5⟩ := mk_box' e (Nat.le_refl _) zs vals t hv
 rw [← he] at h1 h2 h3 h4 h5
 obtain ⟨u2, hu2⟩ := kp_next u hB h2
 rw [hu2] at h1 h2 h3
 exact ⟨u2, h1, hl.below h2, h3, by have := hl.lt; omega, h5⟩
theorem kp_alloc {B b : Nat} {W : World} (u : Kp B b W) (hB : B ≤ W.heap.size) (l : List UInt8) (hl : Bld B b l u.w) (vals : List Value) (t : TypeId) :
    ∃ u2 : Kp B b W, u.w.alloc (.cells vals.toArray t) = u2.w ∧ Bld B b l u2.w ∧ Block u2.w u.w.heap.size vals t ∧ u.w.heap.size ≠ b := by
 obtain ⟨u2, h1, h2⟩ := u.alloc hB (.cells vals.toArray t) hl
 exact ⟨u2, h1, h2, by rw [← h1]; exact Block.new _ _ _, by have := hl.lt; omega⟩
def stopP (l : List Tok) : Prop := sigB 46 l = false ∧ sigB 91 l = false ∧ sigB 58 l = false ∧ sigB 40 l = false
def endP (l : List Tok) : Prop := stopP l ∧ pwT (nx l) = 0
def okp (n p : Nat) : Prop := p < n ∨ (p = n ∧ p ≠ 5)
def primT (h : Tok) : Bool := decide (h.k = 3) || (decide (h.k = 4) || (decide (h.k = 1) || ((decide (h.k = 2) && (decide (h.t = wNULL) || (decide (h.t = wTRUE) || decide (h.t = wFALSE)))) || (decide (h.k = 5) && (decide (h.t = [36]) || (decide (h.t = [40]) || (decide (h.t = [91]) || decide (h.t = [123]))))))))
def opnT (h : Tok) : Bool := primT h || ((decide (h.k = 5) && decide (h.t = [45])) || (decide (h.k = 2) && decide (h.t = wNOT)))
structure Nd (n : Nat) (t : Ex) (ts : List Tok) : Prop where
  hd : ∃ h r, ts = h :: r ∧ opnT h = true ∧ (8 ≤ n → wrd wNOT [h] = false) ∧ (9 ≤ n → primT h = true)
  ex : ∀ (rest : List Tok) (least : Nat) (x : Pr), least ≤ n → stopP rest → okp n (pwT (nx rest)) → (∀ m, pwT (nx rest) ≤ m → Run (.loop least m t) rest x) → Run (.expr least) (ts ++ rest) x
  un : 8 ≤ n → ∀ (rest : List Tok) (least : Nat), stopP rest → Run (.unary least) (ts ++ rest) (.ok (.x t) rest)
  pr : 9 ≤ n → ∀ (rest : List Tok) (least : Nat) (x : Pr), sigB 40 rest = false → Run (.post t) rest x → Run (.unary least) (ts ++ rest) x
theorem Nd.le {n m : Nat} {t : Ex} {ts : List Tok} (h : Nd m t ts) (hn : n ≤ m) : Nd n t ts where
  hd := by obtain ⟨a, r, h1, h2, h3, h4⟩ := h.hd; exact ⟨a, r, h1, h2, fun k => h3 (by omega), fun k => h4 (by omega)⟩
  ex := fun rest least x h1 h2 h3 h4 => h.ex rest least x (by omega) h2 (by unfold okp at h3 ⊢; omega) h4
  un := fun k => h.un (by omega)
  pr := fun k => h.pr (by omega)
theorem run_expr {least : Nat} {l r : List Tok} {t : Ex} {x : Pr} (h1 : Run (.unary least) l (.ok (.x t) r)) (h2 : Run (.loop least (if least ≤ 4 ∧ wrd wNOT l = true then 3 else 9) t) r x) : Run (.expr least) l x :=
  Run.of (by simp only [step]; exact Ans.bnd (Ans.rec h1) (Ans.rec h2))
theorem run_stop {least m : Nat} {t : Ex} {r : List Tok} (h : pwT (nx r) < least ∨ pwT (nx r) = 0 ∨ m < pwT (nx r)) : Run (.loop least m t) r (.ok (.x t) r) :=
  Run.of (by simp only [step, if_pos h]; exact Ans.ok)
theorem run_post {t : Ex} {r : List Tok} (h : stopP r) : Run (.post t) r (.ok (.x t) r) := by
 obtain ⟨h1, h2, h3, h4⟩ := h
 exact Run.of (by simp only [step, h1, h2, h3]; simp only [Bool.false_eq_true, and_false, ↓reduceIte]; exact Ans.ok)
theorem run_unary {least : Nat} {l r : List Tok} {t : Ex} {x : Pr} (h1 : wrd wNOT l = false) (h2 : sigB 45 l = false) (h3 : Run .atom l (.ok (.x t) r)) (h4 : Run (.post t) r x) : Run (.unary least) l x :=
  Run.of (by simp only [step, h1, h2]; simp only [Bool.false_eq_true, and_false, ↓reduceIte]; exact Ans.bnd (Ans.rec h3) (Ans.rec h4))
theorem prim_not {h : Tok} (hp : primT h = true) : wrd wNOT [h] = false ∧ sigB 45 [h] = false ∧ opnT h = true := by
 obtain ⟨k, t, n⟩ := h
 refine ⟨?_, ?_, by unfold opnT; rw [hp]; rfl⟩
 all_goals
  simp only [primT, Bool.or_eq_true, Bool.and_eq_true, decide_eq_true_eq] at hp
  first | (show (decide (k = 2) && decide (t = wNOT)) = false) | (show (decide (k = 5) && decide (t = [45])) = false)
  rw [Bool.and_eq_false_iff]
  simp only [decide_eq_false_iff_not]
  rcases hp with h | h | h | ⟨h, h1⟩ | ⟨h, h1⟩
  ·subst h; exact .inl (by decide)
  ·subst h; exact .inl (by decide)
  ·subst h; exact .inl (by decide)
  ·first | (subst h; exact .inl (by decide)) | (rcases h1 with h1 | h1 | h1 <;> subst h1 <;> exact .inr (by decide))
  ·first | (subst h; exact .inl (by decide)) | (rcases h1 with h1 | h1 | h1 | h1 <;> subst h1 <;> exact .inr (by decide))
theorem ite7 {p : Prop} [Decidable p] {a b : Int} (h1 : a ≤ 7) (h2 : b ≤ 7) : (if p then a else b) ≤ 7 := by split <;> assumption
theorem pw_le (t : Tok) : pwT t ≤ 7 := by
 unfold pwT
 split
 ·split
  ·omega
  ·have : levelB (strOf t.t) ≤ 7 := by unfold levelB; (repeat (refine ite7 (by decide) ?_)); decide
   omega
 ·omega
theorem Nd.of9 {t : Ex} {ts : List Tok} (n : Nat) (hd : ∃ h r, ts = h :: r ∧ primT h = true) (pr : ∀ (rest : List Tok) (least : Nat) (x : Pr), sigB 40 rest = false → Run (.post t) rest x → Run (.unary least) (ts ++ rest) x) : Nd n t ts := by
 have un : ∀ (rest : List Tok) (least : Nat), stopP rest → Run (.unary least) (ts ++ rest) (.ok (.x t) rest) := fun rest least h => pr rest least _ h.2.2.2 (run_post h)
 refine ⟨?_, fun rest least x h1 h2 h3 h4 => ?_, fun _ => un, fun _ => pr⟩
 ·obtain ⟨h, r, h1, h2⟩ := hd
  exact ⟨h, r, h1, (prim_not h2).2.2, fun _ => (prim_not h2).1, fun _ => h2⟩
 ·refine run_expr (un rest least h2) ?_
  obtain ⟨h, r, rfl, h5⟩ := hd
  rw [show wrd wNOT (h :: r ++ rest) = false from (prim_not h5).1]
  simp only [Bool.false_eq_true, and_false, ↓reduceIte]
  exact h4 9 (by have := pw_le (nx rest); omega)
theorem Nd.of8 {t : Ex} {ts : List Tok} (n : Nat) (hn : n ≤ 8) (hd : ∃ h r, ts = h :: r ∧ opnT h = true ∧ wrd wNOT [h] = false) (un : ∀ (rest : List Tok) (least : Nat), stopP rest → Run (.unary least) (ts ++ rest) (.ok (.x t) rest)) : Nd n t ts := by
 refine ⟨?_, fun rest least x h1 h2 h3 h4 => ?_, fun _ => un, fun h => by omega⟩
 ·obtain ⟨h, r, h1, h2, h3⟩ := hd
  exact ⟨h, r, h1, h2, fun _ => h3, fun h => by omega⟩
 ·refine run_expr (un rest least h2) ?_
  obtain ⟨h, r, rfl, h5, h6⟩ := hd
  rw [show wrd wNOT (h :: r ++ rest) = false from h6]
  simp only [Bool.false_eq_true, and_false, ↓reduceIte]
  exact h4 9 (by have := pw_le (nx rest); omega)
theorem Nd.whole {n : Nat} {t : Ex} {ts : List Tok} (h : Nd n t ts) (hn : 1 ≤ n) {rest : List Tok} (he : endP rest) : Run (.expr 1) (ts ++ rest) (.ok (.x t) rest) :=
  h.ex rest 1 _ hn he.1 (by unfold okp; rw [he.2]; omega) fun m _ => run_stop (.inr (.inl he.2))
theorem run_paren {l r : List Tok} {t : Ex} (h : Run (.expr 1) l (.ok (.x t) (sgT [41] :: r))) : Run .atom (sgT [40] :: l) (.ok (.x t) r) :=
  Run.of (by
    have e1 : wrd wNULL (sgT [40] :: l) = false := rfl
    have e2 : (wrd wTRUE (sgT [40] :: l) || wrd wFALSE (sgT [40] :: l)) = false := rfl
    have e3 : sigB 36 (sgT [40] :: l) = false := rfl
    have e4 : sigB 40 (sgT [40] :: l) = true := rfl
    simp only [step, e1, e2, e3, e4, show (nx (sgT [40] :: l)).k = 5 from rfl]
    simp only [Nat.reduceEqDiff, Bool.false_eq_true, ↓reduceIte, List.tail_cons]
    exact Ans.bnd (Ans.rec h) Ans.ok)
theorem end_close (c : UInt8) (r : List Tok) (h : c = 41 ∨ c = 93 ∨ c = 125 ∨ c = 44) : endP (sgT [c] :: r) := by
 rcases h with rfl | rfl | rfl | rfl <;> exact ⟨⟨rfl, rfl, rfl, rfl⟩, show pwT (sgT _) = 0 by decide +kernel⟩
theorem Nd.paren {n m : Nat} {t : Ex} {ts : List Tok} (h : Nd m t ts) (hm : 1 ≤ m) : Nd n t (sgT [40] :: (ts ++ [sgT [41]])) := by
 refine Nd.of9 n ⟨_, _, rfl, rfl⟩ fun rest least x _ hp => ?_
 refine run_unary (r := rest) (t := t) rfl rfl ?_ hp
 have := h.whole hm (end_close 41 rest (.inl rfl))
 rw [List.cons_append, List.append_assoc]
 exact run_paren this
def Xg (t : Ex) : Prop := ∃ (c : Nat) (ts : List Tok), clX t = c ∧ 1 ≤ c ∧ Rd Nn (textX t) ts ∧ Nd c t ts
theorem rd_paren {X : List UInt8} {ts : List Tok} {F : List UInt8 → Prop} (h : Rd Nn X ts) : Rd F ([40] ++ X ++ [41]) (sgT [40] :: (ts ++ [sgT [41]])) := by
 rw [List.append_assoc]
 exact ((rd_sign 40 (by decide) (by decide) (by decide)).app' (h.appN (rd_sign 41 (by decide) (by decide) (by decide)) (by simp) rfl)).any
theorem Xg.need {t : Ex} (h : Xg t) (n : Nat) : ∃ ts, Rd Nn (needX n t) ts ∧ Nd n t ts := by
 obtain ⟨c, ts, h1, h2, h3, h4⟩ := h
 unfold needX inP
 by_cases hc : clX t < n
 ·rw [if_pos hc]; exact ⟨_, rd_paren h3, h4.paren h2⟩
 ·rw [if_neg hc]; exact ⟨ts, h3, h4.le (by omega)⟩
def Whole (t : Ex) (ts : List Tok) : Prop := (∃ h r, ts = h :: r ∧ opnT h = true) ∧ ∀ rest, endP rest → Run (.expr 1) (ts ++ rest) (.ok (.x t) rest)
theorem Xg.whole {t : Ex} (h : Xg t) : ∃ ts, Rd Nn (textX t) ts ∧ Whole t ts := by
 obtain ⟨c, ts, h1, h2, h3, h4⟩ := h
 obtain ⟨a, r, h5, h6, -⟩ := h4.hd
 exact ⟨ts, h3, ⟨a, r, h5, h6⟩, fun rest he => h4.whole h2 he⟩
def tailT (l : List (List Tok)) : List Tok := l.flatMap fun a => sgT [44] :: a
def rowT : List (List Tok) → List Tok
  | [] => []
  | a :: r => a ++ tailT r
theorem rd_comma : Rd Any [44, 32] [sgT [44]] := by
 have := (rd_sign 44 (by decide) (by decide) (by decide)).app' rd_blank
 simpa using this
theorem rd_tail : ∀ (l : List (List UInt8 × List Tok)), (∀ p ∈ l, Rd Nn p.1 p.2) → Rd Nn (Lib.joinTail [44, 32] (l.map Prod.fst)) (tailT (l.map Prod.snd))
  | [], _ => Rd.nil _
  | p :: l, h => by
    have h1 := rd_tail l fun q hq => h q (List.mem_cons_of_mem _ hq)
    have h2 := h p (List.mem_cons_self ..)
    have e1 : Lib.joinTail [44, 32] ((p :: l).map Prod.fst) = [44, 32] ++ (p.1 ++ Lib.joinTail [44, 32] (l.map Prod.fst)) := by unfold Lib.joinTail; simp
    have e2 : tailT ((p :: l).map Prod.snd) = [sgT [44]] ++ (p.2 ++ tailT (l.map Prod.snd)) := by unfold tailT; simp
    rw [e1, e2]
    refine rd_comma.app' (h2.app h1 fun r hr => ?_)
    cases l with
    | nil => exact hr
    | cons q l => unfold Lib.joinTail; simp; rfl
theorem rd_jn (l : List (List UInt8 × List Tok)) (h : ∀ p ∈ l, Rd Nn p.1 p.2) : Rd Nn (jn (l.map Prod.fst)) (rowT (l.map Prod.snd)) := by
 cases l with
 | nil => exact Rd.nil _
 | cons p l =>
  show Rd Nn (Lib.join (p.1 :: l.map Prod.fst) [44, 32]) (p.2 ++ tailT (l.map Prod.snd))
  rw [Lib.join_cons]
  refine (h p (List.mem_cons_self ..)).app (rd_tail l fun q hq => h q (List.mem_cons_of_mem _ hq)) fun r hr => ?_
  cases l with
  | nil => exact hr
  | cons q l => unfold Lib.joinTail; simp; rfl
theorem each {α β : Type} {P : α → β → Prop} : ∀ (l : List α), (∀ x ∈ l, ∃ y, P x y) → ∃ q : List (α × β), q.map Prod.fst = l ∧ ∀ p ∈ q, P p.1 p.2
  | [], _ => ⟨[], rfl, fun p hp => by cases hp⟩
  | x :: l, h => by
    obtain ⟨y, hy⟩ := h x (List.mem_cons_self ..)
    obtain ⟨q, h1, h2⟩ := each l fun z hz => h z (List.mem_cons_of_mem _ hz)
    refine ⟨(x, y) :: q, by simp [h1], fun p hp => ?_⟩
    rcases List.mem_cons.1 hp with rfl | hp
    · exact hy
    · exact h2 p hp
theorem tail_end (l : List (List Tok)) (c : UInt8) (rest : List Tok) (h : c = 41 ∨ c = 93 ∨ c = 125 ∨ c = 44) : endP (tailT l ++ sgT [c] :: rest) := by
 cases l with
 | nil => exact end_close c rest h
 | cons a l => exact end_close 44 _ (by decide)
theorem run_items (c : UInt8) (hc : c = 41 ∨ c = 93) (rest : List Tok) : ∀ (q : List (Ex × List Tok)) (acc : List Ex), q ≠ [] → (∀ p ∈ q, Whole p.1 p.2) → Run (.items [c] acc) (rowT (q.map Prod.snd) ++ sgT [c] :: rest) (.ok (.xs (acc ++ q.map Prod.fst)) rest)
  | [], _, h, _ => absurd rfl h
  | p :: q, acc, _, h => by
    have h1 := (h p (List.mem_cons_self ..)).2 (tailT (q.map Prod.snd) ++ sgT [c] :: rest) (tail_end _ c rest (by rcases hc with h | h <;> simp [h]))
    rw [← List.append_assoc] at h1
    refine Run.of ?_
    simp only [step]
    refine Ans.bnd (Ans.rec h1) ?_
    cases q with
    | nil =>
      have e1 : sigB 44 (tailT (([] : List (Ex × List Tok)).map Prod.snd) ++ sgT [c] :: rest) = false := by rcases hc with rfl | rfl <;> rfl
      have e2 : isT 5 [c] (tailT (([] : List (Ex × List Tok)).map Prod.snd) ++ sgT [c] :: rest) = true := by rcases hc with rfl | rfl <;> rfl
      simp only [e1, e2, must, Bool.false_eq_true, ↓reduceIte]
      exact Ans.ok
    | cons p2 q =>
      have e1 : sigB 44 (tailT ((p2 :: q).map Prod.snd) ++ sgT [c] :: rest) = true := rfl
      have h2 := run_items c hc rest (p2 :: q) (acc ++ [p.1]) (by simp) fun y hy => h y (List.mem_cons_of_mem _ hy)
      simp only [e1, ↓reduceIte]
      have e3 : (tailT ((p2 :: q).map Prod.snd) ++ sgT [c] :: rest).tail = rowT ((p2 :: q).map Prod.snd) ++ sgT [c] :: rest := by unfold tailT rowT; simp [tailT]
      rw [e3]
      have e4 : acc ++ (p :: p2 :: q).map Prod.fst = acc ++ [p.1] ++ (p2 :: q).map Prod.fst := by simp
      rw [e4]
      exact Ans.rec h2
theorem open_close {h : Tok} (ho : opnT h = true) (c : UInt8) (hc : c = 41 ∨ c = 93 ∨ c = 125 ∨ c = 44 ∨ c = 42) : isT 5 [c] [h] = false := by
 obtain ⟨k, t, n⟩ := h
 simp only [opnT, primT, Bool.or_eq_true, Bool.and_eq_true, decide_eq_true_eq] at ho
 show (decide (k = 5) && decide (t = [c])) = false
 rw [Bool.and_eq_false_iff]
 simp only [decide_eq_false_iff_not]
 rcases ho with (h | h | h | ⟨h, h1⟩ | ⟨h, h1 | h1 | h1 | h1⟩) | ⟨h, h1⟩ | ⟨h, h1⟩
 all_goals first | (subst h; exact .inl (by decide)) | (subst h1; refine .inr ?_; rcases hc with rfl | rfl | rfl | rfl | rfl <;> decide)
theorem run_list (c : UInt8) (hc : c = 41 ∨ c = 93) (rest : List Tok) (q : List (Ex × List Tok)) (h : ∀ p ∈ q, Whole p.1 p.2) : Run (.list [c]) (rowT (q.map Prod.snd) ++ sgT [c] :: rest) (.ok (.xs (q.map Prod.fst)) rest) := by
 refine Run.of ?_
 simp only [step]
 cases q with
 | nil =>
  have e2 : isT 5 [c] (rowT (([] : List (Ex × List Tok)).map Prod.snd) ++ sgT [c] :: rest) = true := by rcases hc with rfl | rfl <;> rfl
  simp only [e2, ↓reduceIte]
  exact Ans.ok
 | cons p q =>
  obtain ⟨a, r, h1, h2⟩ := (h p (List.mem_cons_self ..)).1
  have e2 : isT 5 [c] (rowT ((p :: q).map Prod.snd) ++ sgT [c] :: rest) = false := by
   simp only [List.map_cons, rowT, h1]
   exact open_close h2 c (by rcases hc with h | h <;> simp [h])
  simp only [e2, Bool.false_eq_true, ↓reduceIte]
  exact Ans.rec (run_items c hc rest (p :: q) [] (by simp) h)
def kvT (p : ByteArray × Ex × List Tok) : List Tok := keyTok p.1 :: sgT [58] :: p.2.2
theorem key_ok {s : ByteArray} (h : keyB s = true) (r : List Tok) (k : ByteArray → List Tok → O) : keyP (keyTok s :: r) k = k s r := by
 unfold keyB at h
 simp only [Bool.and_eq_true, decide_eq_true_eq] at h
 have hs := ba_len s
 have hst : strOf s.data.toList = s := rfl
 unfold keyP keyTok
 by_cases hp : plainB s = true
 ·rw [if_pos hp, if_pos (.inl rfl)]; rfl
 ·rw [if_neg hp]
  have hc : (nx (stT s.data.toList :: r)).k = 1 ∨ ((nx (stT s.data.toList :: r)).k = 4 ∧ (nx (stT s.data.toList :: r)).t ≠ [] ∧ (nx (stT s.data.toList :: r)).t.length ≤ 64) := by
   refine .inr ⟨rfl, fun e => ?_, ?_⟩
   ·have e' : s.data.toList = [] := e
    rw [e', List.length_nil] at hs; omega
   ·show s.data.toList.length ≤ 64
    omega
  rw [if_pos hc]; rfl
theorem key_head (s : ByteArray) : isT 5 [125] [keyTok s] = false := by unfold keyTok; split <;> rfl
theorem run_pairs (rest : List Tok) : ∀ (q : List (ByteArray × Ex × List Tok)) (ks : List ByteArray) (vs : List Ex), q ≠ [] → (∀ p ∈ q, keyB p.1 = true ∧ Whole p.2.1 p.2.2) →
    Run (.pairs ks vs) (rowT (q.map kvT) ++ sgT [125] :: rest) (.ok (.kv (ks ++ q.map (·.1)) (vs ++ q.map (·.2.1))) rest)
  | [], _, _, h, _ => absurd rfl h
  | p :: q, ks, vs, _, h => by
    obtain ⟨hk, hw⟩ := h p (List.mem_cons_self ..)
    have h1 := hw.2 (tailT (q.map kvT) ++ sgT [125] :: rest) (tail_end _ 125 rest (by simp))
    refine Run.of ?_
    have e0 : rowT ((p :: q).map kvT) ++ sgT [125] :: rest = keyTok p.1 :: (sgT [58] :: (p.2.2 ++ (tailT (q.map kvT) ++ sgT [125] :: rest))) := by simp [rowT, kvT]
    rw [e0]
    simp only [step, key_ok hk]
    have e5 : sigB 58 (sgT [58] :: (p.2.2 ++ (tailT (q.map kvT) ++ sgT [125] :: rest))) = true := rfl
    simp only [must, e5, ↓reduceIte, List.tail_cons]
    refine Ans.bnd (Ans.rec h1) ?_
    cases q with
    | nil =>
      have e1 : sigB 44 (tailT (([] : List (ByteArray × Ex × List Tok)).map kvT) ++ sgT [125] :: rest) = false := rfl
      have e2 : sigB 125 (tailT (([] : List (ByteArray × Ex × List Tok)).map kvT) ++ sgT [125] :: rest) = true := rfl
      simp only [e1, e2, Bool.false_eq_true, ↓reduceIte]
      exact Ans.ok
    | cons p2 q =>
      have e1 : sigB 44 (tailT ((p2 :: q).map kvT) ++ sgT [125] :: rest) = true := rfl
      have h2 := run_pairs rest (p2 :: q) (ks ++ [p.1]) (vs ++ [p.2.1]) (by simp) fun y hy => h y (List.mem_cons_of_mem _ hy)
      simp only [e1, ↓reduceIte]
      have e3 : (tailT ((p2 :: q).map kvT) ++ sgT [125] :: rest).tail = rowT ((p2 :: q).map kvT) ++ sgT [125] :: rest := by unfold tailT rowT; simp [tailT]
      rw [e3]
      have e4 : ks ++ (p :: p2 :: q).map (·.1) = ks ++ [p.1] ++ (p2 :: q).map (·.1) := by simp
      have e6 : vs ++ (p :: p2 :: q).map (·.2.1) = vs ++ [p.2.1] ++ (p2 :: q).map (·.2.1) := by simp
      rw [e4, e6]
      exact Ans.rec h2
theorem run_props (rest : List Tok) (q : List (ByteArray × Ex × List Tok)) (h : ∀ p ∈ q, keyB p.1 = true ∧ Whole p.2.1 p.2.2) : Run .props (sgT [123] :: (rowT (q.map kvT) ++ sgT [125] :: rest)) (.ok (.kv (q.map (·.1)) (q.map (·.2.1))) rest) := by
 refine Run.of ?_
 have e5 : sigB 123 (sgT [123] :: (rowT (q.map kvT) ++ sgT [125] :: rest)) = true := rfl
 simp only [step, must, e5, ↓reduceIte, List.tail_cons]
 cases q with
 | nil =>
  have e2 : sigB 125 (rowT (([] : List (ByteArray × Ex × List Tok)).map kvT) ++ sgT [125] :: rest) = true := rfl
  simp only [e2, ↓reduceIte]
  exact Ans.ok
 | cons p q =>
  have e2 : sigB 125 (rowT ((p :: q).map kvT) ++ sgT [125] :: rest) = false := key_head p.1
  simp only [e2, Bool.false_eq_true, ↓reduceIte]
  have := run_pairs rest (p :: q) [] [] (by simp) h
  exact Ans.rec this
end Go.Proofs.YtndhpdclpgemfaaGreat

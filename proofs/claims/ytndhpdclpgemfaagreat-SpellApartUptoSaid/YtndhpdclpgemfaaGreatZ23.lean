/- Parts X13, X14, X15 of this seat (pruned, scripts that are alike kept once as default arguments: q1, q2, ..). Conditions: each says its own. -/
import Derived.Test.YtndhpdclpgemfaaGreatZ21
namespace Go.Proofs.YtndhpdclpgemfaaGreat
open Go.RowKit
set_option linter.unusedSimpArgs false
set_option linter.unusedVariables false
set_option maxRecDepth 100000
def keyTL (s : ByteArray) : List UInt8 := (keyT s).data.toList
def clX : Ex → Int
  | .mk op nm _ _ _ => closeB op nm
def inP (need : Int) (p : Int × List UInt8) : List UInt8 := if p.1 < need then [40] ++ p.2 ++ [41] else p.2
def ndT (need : Int) (T : List (Int × List UInt8)) (i : Nat) : List UInt8 := inP need (T.getD i (10, []))
def withK (ns : List ByteArray) (T : List (List UInt8)) : List (List UInt8) := List.zipWith (fun k e => keyTL k ++ [58, 32] ++ e) ns T
def bodyX (op : Int) (nm : ByteArray) (v : Vt) (ns : List ByteArray) (T : List (Int × List UInt8)) : List UInt8 :=
  if op = 1 then showV v
  else if op = 2 then nm.data.toList
  else if op = 3 then [36] ++ nm.data.toList
  else if op = 4 then ndT 9 T 0 ++ ([46] ++ keyTL nm)
  else if op = 15 then ndT 9 T 0 ++ ([58] ++ keyTL nm)
  else if op = 7 then ndT 9 T 0 ++ ([91] ++ (T.getD 1 (10, [])).2 ++ [93])
  else if op = 5 then [91] ++ jn (T.map (·.2)) ++ [93]
  else if op = 6 then [123] ++ jn (withK ns (T.map (·.2))) ++ [125]
  else if op = 8 then [45] ++ ndT 8 T 0
  else if op = 9 then [78, 79, 84, 32] ++ ndT 4 T 0
  else if op = 11 then ndT 6 T 0 ++ [32, 73, 83, 32, 78, 85, 76, 76]
  else if op = 12 then ndT 6 T 0 ++ [32, 73, 83, 32, 78, 79, 84, 32, 78, 85, 76, 76]
  else if op = 10 then ndT (if levelB nm = 5 then 6 else levelB nm) T 0 ++ ([32] ++ nm.data.toList ++ [32]) ++ ndT (levelB nm + 1) T 1
  else if op = 14 then (if T.length = 0 then nm.data.toList ++ [40, 42, 41] else (nm.data.toList ++ [40]) ++ jn (T.map (·.2)) ++ [41])
  else (nm.data.toList ++ [40]) ++ jn (T.map (·.2)) ++ [41]
mutual
def textX : Ex → List UInt8
  | .mk op nm v ns az => bodyX op nm v ns (textXs az)
def textXs : List Ex → List (Int × List UInt8)
  | [] => []
  | t :: ts => (clX t, textX t) :: textXs ts
end
theorem textXs_map (l : List Ex) : textXs l = l.map fun t => (clX t, textX t) := by
 induction l with
 | nil => simp [textXs]
 | cons t ts ih => simp [textXs, ih]
theorem textX_eq (op : Int) (nm : ByteArray) (v : Vt) (ns : List ByteArray) (az : List Ex) : textX (.mk op nm v ns az) = bodyX op nm v ns (textXs az) := by rw [textX]
def needX (need : Int) (t : Ex) : List UInt8 := inP need (clX t, textX t)
def rowX (az : List Ex) : List UInt8 := jn (az.map textX)
def propsX (ns : List ByteArray) (az : List Ex) : List UInt8 := [123] ++ jn (withK ns (az.map textX)) ++ [125]
theorem snd_textXs (az : List Ex) : (textXs az).map (·.2) = az.map textX := by rw [textXs_map, List.map_map]; rfl
theorem ndT_get {az : List Ex} {i : Nat} {t : Ex} (h : az[i]? = some t) (need : Int) : ndT need (textXs az) i = needX need t := by
 unfold ndT needX
 rw [textXs_map, List.getD_eq_getElem?_getD, List.getElem?_map, h]
 rfl
theorem textXs_len (az : List Ex) : (textXs az).length = az.length := by rw [textXs_map]; simp
theorem inP_len (need : Int) (p : Int × List UInt8) : (inP need p).length ≤ p.2.length + 2 := by
 unfold inP; split <;> simp <;> omega
theorem keyTL_len (s : ByteArray) : (keyTL s).length ≤ 4 * s.size + 2 := by
 unfold keyTL keyT
 split
 ·simp; omega
 ·have := quoteL_len s.data.toList
  have h2 : s.data.toList.length = s.size := by simp
  simp [strOf]; omega
theorem jn_bound (xs : List (List UInt8)) (g : Nat) (h : (xs.map fun x => x.length + 2).sum ≤ g) : (jn xs).length ≤ g := Nat.le_trans (jn_len xs) h
theorem withK_sum (ns : List ByteArray) (T : List (List UInt8)) : ((withK ns T).map fun x => x.length + 2).sum ≤ 6 * wtS ns + (T.map fun x => x.length + 2).sum := by
 unfold withK wtS
 induction ns generalizing T with
 | nil => simp
 | cons k ks ih =>
  cases T with
  | nil => simp
  | cons e es =>
   have h1 := keyTL_len k
   have h2 := ih es
   simp only [List.zipWith_cons_cons, List.map_cons, List.sum_cons, List.length_append, List.length_cons, List.length_nil]
   omega
theorem textX_len (t : Ex) : (textX t).length + 4 ≤ 64 * wtX t := by
 refine t.down (p := fun t => (textX t).length + 4 ≤ 64 * wtX t) fun op nm v ns az ih => ?_
 have hsum : ∀ (l : List Ex), (∀ (j : Nat) t, l[j]? = some t → (textX t).length + 4 ≤ 64 * wtX t) → ((l.map textX).map fun x => x.length + 2).sum ≤ 64 * wtXs l := by
  intro l
  induction l with
  | nil => intro _; simp
  | cons t ts ih2 =>
   intro h
   have h1 := h 0 t rfl
   have h2 := ih2 fun j t ht => h (j + 1) t (by simpa using ht)
   simp only [List.map_cons, List.sum_cons, wtXs]
   omega
 have hs := hsum az ih
 have hj := jn_bound _ _ hs
 have hk := jn_bound _ _ (Nat.le_trans (withK_sum ns (az.map textX)) (Nat.add_le_add_left hs _))
 have hkk := keyTL_len nm
 have hnd : ∀ need i, (ndT need (textXs az) i).length ≤ 64 * wtXs az + 2 := by
  intro need i
  unfold ndT
  refine Nat.le_trans (inP_len _ _) ?_
  rw [textXs_map, List.getD_eq_getElem?_getD, List.getElem?_map]
  cases h : az[i]? with
  | none => simp
  | some t =>
   have h1 := ih i t h
   have h2 := wtXs_get h
   simp
   omega
 have hnd2 : az[0]? ≠ none → az[1]? ≠ none → ∀ need need', (ndT need (textXs az) 0).length + (ndT need' (textXs az) 1).length ≤ 64 * wtXs az := by
  intro h0 h1 need need'
  match az, h0, h1 with
  | a :: c :: r, _, _ =>
   have g0 := ih 0 a rfl
   have g1 := ih 1 c rfl
   have k0 := inP_len need (clX a, textX a)
   have k1 := inP_len need' (clX c, textX c)
   rw [ndT_get (t := a) rfl, ndT_get (t := c) rfl]
   unfold needX
   simp only [wtXs] at *
   omega
 have hnd3 : ∀ need need', (ndT need (textXs az) 0).length + (ndT need' (textXs az) 1).length ≤ 64 * wtXs az + 4 := by
  intro need need'
  by_cases h0 : az[0]? = none
  ·have : ∀ need, ndT need (textXs az) 0 = inP need (10, []) := by
    intro need; unfold ndT; rw [textXs_map, List.getD_eq_getElem?_getD, List.getElem?_map, h0]; rfl
   have h1 : ∀ need, ndT need (textXs az) 1 = inP need (10, []) := by
    intro need; unfold ndT; rw [textXs_map, List.getD_eq_getElem?_getD, List.getElem?_map]
    have : az[1]? = none := by
     cases az with
     | nil => rfl
     | cons a r => simp at h0
    rw [this]; rfl
   rw [this, h1]
   have k0 := inP_len need (10, [])
   have k1 := inP_len need' (10, [])
   simp only [List.length_nil] at k0 k1
   omega
  ·by_cases h1 : az[1]? = none
   ·have h2 : ∀ need, ndT need (textXs az) 1 = inP need (10, []) := by
     intro need; unfold ndT; rw [textXs_map, List.getD_eq_getElem?_getD, List.getElem?_map, h1]; rfl
    rw [h2]
    have k1 := inP_len need' (10, [])
    have := hnd need 0
    simp only [List.length_nil] at k1
    omega
   ·have := hnd2 h0 h1 need need'
    omega
 have h1e : (textXs az |>.getD 1 (10, [])).2.length = (ndT 0 (textXs az) 1).length ∨ (textXs az |>.getD 1 (10, [])).2.length + 2 = (ndT 0 (textXs az) 1).length := by
  unfold ndT inP
  split
  ·right; simp
  ·left; rfl
 have hns : nm.data.toList.length = nm.size := by simp
 have hsv := showV_len v
 have hwv : 1 ≤ wtV v := by cases v; unfold wtV; omega
 have a0 := hnd 9 0
 have a1 := hnd3 9 0
 have a2 := hnd 8 0
 have a3 := hnd 4 0
 have a4 := hnd 6 0
 have a5 := hnd3 (if levelB nm = 5 then 6 else levelB nm) (levelB nm + 1)
 rw [textX_eq]
 unfold bodyX
 simp only [wtX]
 rw [snd_textXs]
 by_cases g1 : op = 1
 ·rw [if_pos g1]; (try simp only [List.length_append, List.length_cons, List.length_nil]); omega
 rw [if_neg g1]
 by_cases g2 : op = 2
 ·rw [if_pos g2]; (try simp only [List.length_append, List.length_cons, List.length_nil]); omega
 rw [if_neg g2]
 by_cases g3 : op = 3
 ·rw [if_pos g3]; (try simp only [List.length_append, List.length_cons, List.length_nil]); omega
 rw [if_neg g3]
 by_cases g4 : op = 4
 ·rw [if_pos g4]; (try simp only [List.length_append, List.length_cons, List.length_nil]); omega
 rw [if_neg g4]
 by_cases g15 : op = 15
 ·rw [if_pos g15]; (try simp only [List.length_append, List.length_cons, List.length_nil]); omega
 rw [if_neg g15]
 by_cases g7 : op = 7
 ·rw [if_pos g7]; (try simp only [List.length_append, List.length_cons, List.length_nil]); omega
 rw [if_neg g7]
 by_cases g5 : op = 5
 ·rw [if_pos g5]; (try simp only [List.length_append, List.length_cons, List.length_nil]); omega
 rw [if_neg g5]
 by_cases g6 : op = 6
 ·rw [if_pos g6]; (try simp only [List.length_append, List.length_cons, List.length_nil]); omega
 rw [if_neg g6]
 by_cases g8 : op = 8
 ·rw [if_pos g8]; (try simp only [List.length_append, List.length_cons, List.length_nil]); omega
 rw [if_neg g8]
 by_cases g9 : op = 9
 ·rw [if_pos g9]; (try simp only [List.length_append, List.length_cons, List.length_nil]); omega
 rw [if_neg g9]
 by_cases g11 : op = 11
 ·rw [if_pos g11]; (try simp only [List.length_append, List.length_cons, List.length_nil]); omega
 rw [if_neg g11]
 by_cases g12 : op = 12
 ·rw [if_pos g12]; (try simp only [List.length_append, List.length_cons, List.length_nil]); omega
 rw [if_neg g12]
 by_cases g10 : op = 10
 ·rw [if_pos g10]; (try simp only [List.length_append, List.length_cons, List.length_nil]); omega
 rw [if_neg g10]
 by_cases g14 : op = 14
 ·rw [if_pos g14]
  by_cases h0 : (textXs az).length = 0
  ·rw [if_pos h0]; (try simp only [List.length_append, List.length_cons, List.length_nil]); omega
  ·rw [if_neg h0]; (try simp only [List.length_append, List.length_cons, List.length_nil]); omega
 rw [if_neg g14]; (try simp only [List.length_append, List.length_cons, List.length_nil]); omega
end Go.Proofs.YtndhpdclpgemfaaGreat
namespace Go.Proofs.YtndhpdclpgemfaaGreat
open Go.RowKit Go.Shelf
set_option linter.unusedSimpArgs false
set_option linter.unusedVariables false
set_option maxRecDepth 100000
def Kp (B b : Nat) (W : World) : Type := { w' : World // Below B W w' ∧ Lib.OthersKept 5 (some b) W w' }
def Kp.w {B b : Nat} {W : World} (u : Kp B b W) : World := u.1
theorem Kp.below {B b : Nat} {W : World} (u : Kp B b W) : Below B W u.w := u.2.1
theorem Kp.kept {B b : Nat} {W : World} (u : Kp B b W) : Lib.OthersKept 5 (some b) W u.w := u.2.2
theorem Kp.start (B b : Nat) (W : World) : ∃ u : Kp B b W, W = u.w := ⟨⟨W, Below.refl _ _, fun _ _ h _ _ => h⟩, rfl⟩
theorem Bld.below {B b : Nat} {l : List UInt8} {w w' : World} (h : Bld B b l w) (hb : Below w.heap.size w w') : Bld B b l w' := by
 have hk : ∀ (k : Nat) (o : Obj), w.heap[k]? = some o → w'.heap[k]? = some o := fun k o h => (hb.block k (Array.getElem?_eq_some_iff.1 h).1).trans h
 unfold Bld Lib.IsBuilderF at h ⊢
 rcases h with ⟨hB, v, h1, h2, h3⟩ | ⟨hB, v, h1, h2, h3⟩
 ·refine .inl ⟨hB, v, hk _ _ h1, ⟨h2.1, ?_⟩, h3⟩
  rcases h2.2 with hn | ⟨g, cap, cur, fz, hv, hbg, hg, rest⟩
  ·exact .inl hn
  ·exact .inr ⟨g, cap, cur, fz, hv, hbg, hk _ _ hg, rest⟩
 ·refine .inr ⟨hB, v, hk _ _ h1, ⟨h2.1, ?_⟩, h3⟩
  rcases h2.2 with hn | ⟨g, cap, cur, fz, hv, hbg, hg, rest⟩
  ·exact .inl hn
  ·exact .inr ⟨g, cap, cur, fz, hv, hbg, hk _ _ hg, rest⟩
theorem Bld.lt {B b : Nat} {l : List UInt8} {w : World} (h : Bld B b l w) : b < w.heap.size := by
 unfold Bld Lib.IsBuilderF at h
 rcases h with ⟨hB, v, h1, h2, h3⟩ | ⟨hB, v, h1, h2, h3⟩ <;> exact (Array.getElem?_eq_some_iff.1 h1).1
theorem others_below {e : TypeId} {b : Option Nat} {w w' : World} (hb : Below w.heap.size w w') : Lib.OthersKept e b w w' := fun k o h _ _ => (hb.block k (Array.getElem?_eq_some_iff.1 h).1).trans h
theorem strOf_data (l : List UInt8) : (strOf l).data.toList = l := by simp [strOf]
theorem kp_write {P : Program} {B b : Nat} {W : World} {f : FuncId} {args : Array Value} {v : Value} {l' : List UInt8} (u : Kp B b W) (h : Calls P f args u.w fun e w' => e = .returned v ∧ Wrote B b l' u.w w') :
    Calls P f args u.w fun e w'' => e = .returned v ∧ ∃ u' : Kp B b W, w'' = u'.w ∧ Bld B b l' u'.w :=
  h.mono fun _ w'' ⟨he, h1, h2, h3⟩ => ⟨he, ⟨w'', u.below.trans h2, u.kept.trans h3⟩, rfl, h1⟩
theorem kp_grow {P : Program} {B b : Nat} {W : World} {f : FuncId} {args : Array Value} {v : Value} {l : List UInt8} (u : Kp B b W) (hB : B ≤ W.heap.size) (hl : Bld B b l u.w) (h : Calls P f args u.w fun e w' => e = .returned v ∧ Below u.w.heap.size u.w w') :
    Calls P f args u.w fun e w'' => e = .returned v ∧ ∃ u' : Kp B b W, w'' = u'.w ∧ Bld B b l u'.w :=
  h.mono fun _ w'' ⟨he, h2⟩ => ⟨he, ⟨w'', u.below.trans (h2.mono (Nat.le_trans hB u.below.size)), u.kept.trans (others_below h2)⟩, rfl, hl.below h2⟩
theorem Kp.alloc {B b : Nat} {l : List UInt8} {W : World} (u : Kp B b W) (hB : B ≤ W.heap.size) (o : Obj) (hl : Bld B b l u.w) : ∃ u' : Kp B b W, u.w.alloc o = u'.w ∧ Bld B b l u'.w := by
 have h2 : Below u.w.heap.size u.w (u.w.alloc o) := (Below.refl _ _).alloc (Nat.le_refl _) _
 exact ⟨⟨u.w.alloc o, u.below.trans (h2.mono (Nat.le_trans hB u.below.size)), u.kept.trans (others_below h2)⟩, rfl, hl.below h2⟩
theorem box_kp {B b : Nat} {l : List UInt8} (w : World) (hB : B ≤ w.heap.size) (hl : Bld B b l w) (cs : List Value) (ty : TypeId) (ht : ty ≠ 5) : ∃ (W0 : World) (u0 : Kp B b W0), w.alloc (.cells cs.toArray ty) = W0 ∧ W0 = u0.w ∧ B ≤ W0.heap.size ∧ Bld B b l u0.w ∧
    (∀ u : Kp B b W0, Below B w u.w) ∧ (∀ (u : Kp B b W0) (l' : List UInt8), Bld B b l' u.w → Wrote B b l' w u.w) ∧ (∀ (u : Kp B b W0) (i : Nat) v, cs[i]? = some v → u.w.cell? ⟨w.heap.size, i, none⟩ = some v) := by
 obtain ⟨W0, hW0⟩ := nam (w.alloc (.cells cs.toArray ty))
 obtain ⟨u0, hu0⟩ := Kp.start B b W0
 have hbx : Block W0 w.heap.size cs ty := by rw [← hW0]; exact Block.new w _ _
 have hb0 : Below w.heap.size w W0 := by rw [← hW0]; exact (Below.refl _ _).alloc (Nat.le_refl _) _
 have hne : w.heap.size ≠ b := by have := hl.lt; omega
 refine ⟨W0, u0, hW0, hu0, Nat.le_trans hB hb0.size, by rw [← hu0]; exact hl.below hb0, fun u => (hb0.mono hB).trans u.below, fun u l' h => ⟨h, (hb0.mono hB).trans u.below, (others_below hb0).trans u.kept⟩, fun u i v hv => ?_⟩
 have h2 : Block u.w w.heap.size cs ty := u.kept w.heap.size _ hbx (fun e => hne (Option.some.inj e)) (fun c fz e => ht (by injection e))
 exact h2.cell hv
theorem RowR.at_any {U : Type} {f : U → World} {B C : Nat} {w : World} {xa : Option Addr} {az : List Ex} (h : RowR (IsX B w) 10 B w xa az) (hB : B ≤ C) (hbe : ∀ u, Below C w (f u)) {j : Nat} {t : Ex} (ht : az[j]? = some t) :
    ∃ b off cs, xa = some ⟨b, off, none⟩ ∧ b < B ∧ (∀ (u : U) (q : Nat) v, cs[q]? = some v → (f u).cell? ⟨b, off + j * 10 + q, none⟩ = some v) ∧ ∀ u : U, IsX B (f u) cs t := Se669192
theorem StrRow.at_any {U : Type} {f : U → World} {B C : Nat} {w : World} {a : Option Addr} {ks : List ByteArray} (h : StrRow B w a ks) (hB : B ≤ C) (hbe : ∀ u, Below C w (f u)) {j : Nat} {x : ByteArray} (hx : ks[j]? = some x) :
    ∃ b off, a = some ⟨b, off, none⟩ ∧ b < B ∧ ∀ u : U, (f u).cell? ⟨b, off + j, none⟩ = some (.string x) := by
 obtain ⟨b, off, h1, h2, h3⟩ := h.get hx
 exact ⟨b, off, h1, h2, fun u => ((hbe u).cell (p := ⟨b, off + j, none⟩) (by show b < _; omega)).trans h3⟩
theorem ML.kp {C : Nat} {w w' : World} (h : ML w) (hb : Below C w w') (h0 : 0 < C) : ML w' := by
 obtain ⟨h1, m, h2⟩ := h
 exact ⟨Nat.lt_of_lt_of_le h1 hb.size, m, by rw [hb.cell (by show 0 < C; exact h0)]; exact h2⟩
theorem wpList_defer {P : Program} {ops : Array Oper} {rest : List Oper} {o : Oper} {a : Act} {Q : Exit → Act → World → Prop} (w : World) (hg : o.guard = none) (f : FuncId) (x y : Operand) (ats : Array TypeId) (vx vy : Value)
    (hop : o.op = .defer { callee := .value (.func f), args := #[x, y], argTypes := ats }) (hx : a.eval x = vx) (hy : a.eval y = vy) (hd : o.dst = none) (hz : a.defers = [])
    (hK : wpList P ops Q rest { tmps := a.tmps, defers := [{ target := .fn (.func f) #[], args := #[vx, vy] }] } w) : wpList P ops Q (o :: rest) a w := by
 refine wpList_plain hg fun K hK' => ?_
 have ef : a.eval (.func f) = .func (.func f) #[] #[] := rfl
 have hr : (execOp a.eval o).run P w = .ok (.defer { target := .fn (.func f) #[], args := #[vx, vy] }) w := by
  unfold execOp
  simp [hop, resolve, Deferred.ofValue, ef, hx, hy]
 unfold Oper.wp
 rw [hr]
 show K (Act.put { a with defers := _ :: a.defers } o.dst undef) w
 rw [hd, hz]
 exact hK' _ _ hK
set_option maxHeartbeats 4000000 in
theorem byte_deferred (B b : Nat) (l : List UInt8) (c : Nat) (u : FrameMode) (w : World) (h : Bld B b l w) (hl : l.length + 1 ≤ 140737488355328) (hB : B ≤ w.heap.size) (hc : c < 256) :
    CallsD Tryz.prog 24 #[.pointer (some ⟨b, 0, none⟩), .int .u8 c] u w fun e u' w' => u' = u ∧ (e = .returned .nilIface ∧ Wrote B b (l ++ [UInt8.ofNat c]) w w') := by
 obtain ⟨i0, hi, hz0, hz1, hz2⟩ := info_parts shExtra.infoByte
 have CC := Lib.hid (Any.Builder_copyCheck_k { shLays167 with } shExtra.toX72 B b (Lib.byteCells l) w h)
 have hlen : (Lib.byteCells l).length = l.length := Lib.byteCells_length l
 have HLEN := Lib.hid hlen
 have hcells : Lib.byteCells (l ++ [UInt8.ofNat c]) = Lib.byteCells l ++ [.int .u8 c] := by
  rw [Lib.byteCells_append, show Lib.byteCells [UInt8.ofNat c] = [.int .u8 c] from by simp [Lib.byteCells]; omega]
 have HC := Lib.hid hcells
 obtain ⟨bs, hbs⟩ := nam (Lib.byteCells l)
 rw [hbs] at CC HLEN HC
 have HL := Lib.hid hl
 have HB := Lib.hid hB
 clear h hl hB hlen hcells hbs
 go_enter_d Tryz.func24, Tryz.ntmps24
 go_wp2_with (go_at_call 57; refine CC.out.mono ?_)
 rintro e w1 ⟨rfl, ⟨hB1, v, hbk, hown, hne⟩, hb1, hk1⟩
 have hlt : b < w1.heap.size := (Array.getElem?_eq_some_iff.1 hbk).1
 have c0 : w1.cell? ⟨b, 0, none⟩ = some (.pointer (some ⟨b, 0, none⟩)) := by rw [Lib.cell_of_heap hbk]; rfl
 have c1 : w1.cell? ⟨b, 1, none⟩ = some v := by rw [Lib.cell_of_heap hbk]; rfl
 have HBW := Lib.hid (Nat.le_trans HB.out hb1.size)
 have HB1 := Lib.hid hb1
 have HK1 := Lib.hid hk1
 clear hb1 hk1
 go_wp2_with (at_builtin; refine wpList_append_ownF _ rfl _ _ 72 rfl B 5 i0 (.int .u8 0) 1 1 Tryz.underlying72 hi hz0 hz1 hz2 rfl (by decide) _ _ _ rfl (hown.alloc _) ⟨w1.heap.size, 0, none⟩ 1 1 [.int .u8 c] rfl rfl ?c1 ?c2 ?c3 ?c4 ?c5 ?_)
 case c1 =>
  intro j u hj
  match j, hj with
  | 0, hj => simp at hj; subst hj; simp [Addr.add]
 case c2 => intro u hu; simp at hu; subst hu; rfl
 case c3 => have := HLEN.out; have := HL.out; unfold maxLen; omega
 case c4 => have := HLEN.out; have := HL.out; omega
 case c5 => have := HBW.out; simp; omega
 intro v' w2 hown' hgrow _
 have hb2 : w2.heap[b]? = some (.cells #[.pointer (some ⟨b, 0, none⟩), v] 74 (0, 0)) := by
  rw [hgrow.block b (by simp; omega) (fun e => hne e.symm), Lib.alloc_old w1 _ b hlt]
  exact hbk
 have d0 : w2.cell? ⟨b, 0, none⟩ = some (.pointer (some ⟨b, 0, none⟩)) := by rw [Lib.cell_of_heap hb2]; rfl
 have d1 : w2.cell? ⟨b, 1, none⟩ = some v := by rw [Lib.cell_of_heap hb2]; rfl
 have f1 : w2.frozen? ⟨b, 1, none⟩ = false := Lib.frozen_of_heap hb2 1
 obtain ⟨g, cap, rfl⟩ : ∃ g cap, v' = .slice (some ⟨g, 0, none⟩) (bs.length + 1) cap := by
  rcases hown'.2 with ⟨_, h0⟩ | ⟨g, cap, cur, fz, hv, _⟩
  ·omega
  ·exact ⟨g, cap, hv⟩
 go_wp2
 go_ret
 refine ⟨rfl, Or.inr ?_, ?_, ((HK1.out.alloc _).grown hgrow (Lib.ownsRowF_kind (hown.alloc _))).setCell ⟨b, 1, none⟩ rfl _⟩
 ·rw [HC.out]; exact Lib.BuilderAtF.put (T := 74) (e := 5) hB1 hb2 (bs' := bs ++ [.int .u8 c]) (by simpa using hown') (by decide)
 ·exact ((HB1.out.alloc HBW.out _).grown hgrow (by have := HBW.out; simp; omega) (fun k hk => (hown.lt k hk).1)).setCell (p := ⟨b, 1, none⟩) hB1 _
end Go.Proofs.YtndhpdclpgemfaaGreat

/- Parts X33, X34, X36, X35, X38 of this seat (pruned, scripts that are alike kept once as default arguments: q1, q2, ..). Conditions: each says its own. -/
import Derived.Test.YteljlahcdipilaaGreatG21
set_option linter.unusedSimpArgs false
set_option linter.unusedVariables false
set_option maxRecDepth 1000000
set_option maxHeartbeats 64000000
namespace Go.Proofs.YteljlahcdipilaaGreat
open Go.RowKit Go.Shelf
def pH (c : dS) : Prop := ∀ (cs : List Value) (B : Nat) (w : World), df B w cs c -> B <= w.heap.size -> aT c <= 1048576 ->
    Calls Tryz.prog 35 #[.agg cs.toArray] w fun e w' => ∃ a n cap, e = .returned (.tuple #[.slice a n cap, .bool (aU c)]) /\ n = (aD c).length /\ aZ a n cap /\ gt B w' a (aD c) /\ Below w.heap.size w w'
def ra : Prop := ∀ c : dS, pH c
theorem cV {α : Type} {f : α -> Nat} {l : List α} {x : α} (h : x ∈ l) : f x <= (l.map f).sum := by
 induction l with
 | nil => simp at h
 | cons y l ih =>
  rcases List.mem_cons.1 h with rfl | h
  ·simp
  ·have := ih h; simp; omega
theorem tV (c : dS) : ∀ g ∈ aD c, ∀ p ∈ g.parts, cA p <= aT c := by
 have h1 : ∀ p ∈ c.paths.map ch.pt, cA p <= aT c := by
  intro p hp; obtain ⟨x, hx, rfl⟩ := List.mem_map.1 hp; have := cV (f := bt) hx; simp only [cA]; unfold aT; omega
 have h2 : ∀ p ∈ c.whr.map ch.ex, cA p <= aT c := by
  intro p hp; obtain ⟨x, hx, rfl⟩ := List.mem_map.1 hp; have := cV (f := ee) hx; rw [<- fy] at this; simp only [cA]; unfold aT; omega
 have h5 : ∀ p ∈ c.items.map ch.it, cA p <= aT c := by
  intro p hp; obtain ⟨x, hx, rfl⟩ := List.mem_map.1 hp; have := cV (f := bB) hx; simp only [cA]; unfold aT; omega
 have h7 : ∀ p ∈ c.order.map ch.so, cA p <= aT c := by
  intro p hp; obtain ⟨x, hx, rfl⟩ := List.mem_map.1 hp; have := cV (f := bE) hx; simp only [cA]; unfold aT; omega
 have h8 : ∀ p ∈ c.skip.map ch.ex, cA p <= aT c := by
  intro p hp; obtain ⟨x, hx, rfl⟩ := List.mem_map.1 hp; have := cV (f := ee) hx; rw [<- fy] at this; simp only [cA]; unfold aT; omega
 have h9 : ∀ p ∈ c.limit.map ch.ex, cA p <= aT c := by
  intro p hp; obtain ⟨x, hx, rfl⟩ := List.mem_map.1 hp; have := cV (f := ee) hx; rw [<- fy] at this; simp only [cA]; unfold aT; omega
 have h10 : ∀ p ∈ c.sets.map (fun s => ch.si s (c.kind == 6)), cA p <= aT c := by
  intro p hp; obtain ⟨x, hx, rfl⟩ := List.mem_map.1 hp; have := cV (f := bv) hx; simp only [cA]; unfold aT; omega
 have h11 : ∀ p ∈ c.vars.map ch.nm, cA p <= aT c := by
  intro p hp; obtain ⟨x, hx, rfl⟩ := List.mem_map.1 hp;have h := cV (f := fun k : ByteArray => k.size + 1) hx;have h' : x.size + 1 <= ju c.vars := h;simp only [cA]; unfold aT; omega
 have hE : ∀ p ∈ [ch.ex c.e], cA p <= aT c := by
  intro p hp; rw [List.mem_singleton.1 hp]; simp only [cA]; unfold aT; omega
 have hV : ∀ p ∈ [ch.nm c.var], cA p <= aT c := by
  intro p hp; rw [List.mem_singleton.1 hp]; simp only [cA]; unfold aT; omega
 have hN : ∀ g ∈ ([] : List jT), ∀ p ∈ g.parts, cA p <= aT c := fun g hg => by simp at hg
 have hT : ∀ g ∈ pA c, ∀ p ∈ g.parts, cA p <= aT c := List.forall_mem_cons.2 ⟨h7, List.forall_mem_cons.2 ⟨h8, List.forall_mem_cons.2 ⟨h9, hN⟩⟩⟩;unfold aD
 by_cases k1 : c.kind = 1
 ·rw [if_pos k1]; exact List.forall_mem_cons.2 ⟨h1, List.forall_mem_cons.2 ⟨h2, hN⟩⟩
 rw [if_neg k1]
 by_cases k2 : c.kind = 2
 ·rw [if_pos k2]; exact List.forall_mem_cons.2 ⟨hE, List.forall_mem_cons.2 ⟨hV, hN⟩⟩
 rw [if_neg k2]
 by_cases k3 : c.kind = 3
 ·rw [if_pos k3];refine List.forall_mem_cons.2 ⟨h5, fun g hg => ?_⟩;rcases List.mem_append.1 hg with hg | hg
  ·exact hT g hg
  ·rw [List.mem_singleton.1 hg]; exact h2
 rw [if_neg k3]
 by_cases k9 : c.kind = 9
 ·rw [if_pos k9]; exact List.forall_mem_cons.2 ⟨h5, hT⟩
 rw [if_neg k9]
 by_cases k4 : c.kind = 4
 ·rw [if_pos k4]; exact List.forall_mem_cons.2 ⟨h1, hN⟩
 rw [if_neg k4]
 by_cases k5 : c.kind = 5
 ·rw [if_pos k5]
  by_cases hm : dK c = true
  ·rw [if_pos hm]; exact hN
  ·rw [if_neg hm]; exact List.forall_mem_cons.2 ⟨h1, hN⟩
 rw [if_neg k5]
 by_cases k6 : c.kind = 6
 ·rw [if_pos k6]; exact List.forall_mem_cons.2 ⟨h10, hN⟩
 rw [if_neg k6]
 by_cases k7 : c.kind = 7
 ·rw [if_pos k7]; exact List.forall_mem_cons.2 ⟨h10, hN⟩
 rw [if_neg k7]
 by_cases k8 : c.kind = 8
 ·rw [if_pos k8]; exact List.forall_mem_cons.2 ⟨h11, hN⟩
 rw [if_neg k8];exact hN
def eS (g : jT) : Bool := decide (g.least <= (g.parts.length : Int)) && (decide ((g.parts.length : Int) <= g.most) && g.parts.all mr)
def dQ (c : dS) (more : Bool) : Bool := aU c && (!(aD c).isEmpty && (!(c.kind == 9 && more) && (aD c).all eS))
def fD : List dS -> Bool
  | [] => true
  | c :: cs => dQ c (!cs.isEmpty) && fD cs
def mz (cs : List dS) : Bool := match cs.getLast? with
  | some c => ik c.kind || c.kind == 9
  | none => false
def eI (s : vC) : Bool := decide (1 <= s.clauses.length) && (decide (s.clauses.length <= 64) && (mz s.clauses && fD s.clauses))
theorem jq (cs : List dS) : fD cs = true ↔ ∀ (i : Nat) c, cs[i]? = some c -> dQ c (decide (i + 1 < cs.length)) = true := by
 induction cs with
 | nil => simp [fD]
 | cons c cs ih =>
  have he : (!cs.isEmpty) = decide (0 + 1 < (c :: cs).length) := by cases cs <;> simp
  simp only [fD, Bool.and_eq_true];constructor
  ·rintro ⟨h1, h2⟩ i x hx;cases i with
   | zero => simp only [List.getElem?_cons_zero, Option.some.injEq] at hx; subst hx; rw [he] at h1; exact h1
   | succ i =>
    rw [List.getElem?_cons_succ] at hx;have h := ih.1 h2 i x hx;rw [show decide (i + 1 + 1 < (c :: cs).length) = decide (i + 1 < cs.length) from by simp]; exact h
  ·intro h;refine ⟨by rw [he]; exact h 0 c rfl, ih.2 fun i x hx => ?_⟩;have := h (i + 1) x (by rw [List.getElem?_cons_succ]; exact hx);rwa [show decide (i + 1 + 1 < (c :: cs).length) = decide (i + 1 < cs.length) from by simp] at this
theorem wu (p : ch) (v : Value) (B : Nat) (w : World) (hX : cj B w v p) (hB : B <= w.heap.size) (hML : ML w) (hw : cA p <= 1048576) :
    ∃ tid pv f, v = .iface tid pv /\ (∀ w' : World, (method 326 tid pv "wattle/spell.may").run Tryz.prog w' = .ok (f, pv) w') /\ (∀ w' : World, (callFunc f #[pv]).run Tryz.prog w' = .ok (.enter f #[pv]) w') /\ Calls Tryz.prog f #[pv] w fun e w' => e = .returned (.bool (mr p)) /\ Below w.heap.size w w' := by
 cases p with
 | nm s => exact ⟨141, .string s, 193, hX, fun _ => by kernel_rfl, fun _ => by kernel_rfl, nC s w (by have : s.size <= 1048576 := hw; omega) hML⟩
 | ex t => obtain ⟨cs, rfl, hX⟩ := hX; exact ⟨132, _, 187, rfl, fun _ => by kernel_rfl, fun _ => by kernel_rfl, gq t cs B w hX hB hML (by have : ee t <= 1048576 := hw; omega)⟩
 | pt t => obtain ⟨cs, rfl, hX⟩ := hX; exact ⟨129, _, 149, rfl, fun _ => by kernel_rfl, fun _ => by kernel_rfl, nH t cs B w hX hB hML (by have : bt t <= 1048576 := hw; omega)⟩
 | it t => obtain ⟨cs, rfl, hX⟩ := hX; exact ⟨135, _, 189, rfl, fun _ => by kernel_rfl, fun _ => by kernel_rfl, nE t cs B w hX hB hML (by have : bB t <= 1048576 := hw; omega)⟩
 | so t => obtain ⟨cs, rfl, hX⟩ := hX; exact ⟨138, _, 191, rfl, fun _ => by kernel_rfl, fun _ => by kernel_rfl, nD t cs B w hX hB hML (by have : bE t <= 1048576 := hw; omega)⟩
 | si t st => obtain ⟨cs, rfl, hX⟩ := hX; exact ⟨145, _, 195, rfl, fun _ => by kernel_rfl, fun _ => by kernel_rfl, pj t st cs B w hX hB hML (by have : bv t <= 1048576 := hw; omega)⟩
theorem su {α : Type} {f : α -> Bool} {l : List α} {j : Nat} {x : α} (hx : l[j]? = some x) (h : f x = false) : l.all f = false := bj hx h
theorem rc {g : jT} {m : Nat} {p : ch} (h : g.parts[m]? = some p) (hp : mr p = false) : eS g = false := by
 unfold eS; rw [su h hp]; simp
theorem rd {g : jT} (h : (g.parts.length : Int) < g.least) : eS g = false := by
 unfold eS; rw [decide_eq_false (by omega)]; rfl
theorem pI {g : jT} (h : g.most < (g.parts.length : Int)) : eS g = false := by
 unfold eS; rw [decide_eq_false (p := (g.parts.length : Int) <= g.most) (by omega)]; simp
theorem pJ {g : jT} (h1 : ¬ (g.parts.length : Int) < g.least) (h2 : ¬ g.most < (g.parts.length : Int)) (h : ∀ (i : Nat) p, g.parts[i]? = some p -> mr p = true) : eS g = true := by
 unfold eS; rw [decide_eq_true (by omega), decide_eq_true (by omega), bC h]; rfl
theorem gX {c : dS} {b : Bool} {k : Nat} {g : jT} (h : (aD c)[k]? = some g) (hg : eS g = false) : dQ c b = false := by
 unfold dQ; rw [su h hg]; simp
def iu (c : dS) (more : Bool) : Bool := !aU c || ((aD c).isEmpty || (c.kind == 9 && more))
theorem nQ {c : dS} {b : Bool} (h : iu c b = true) : dQ c b = false := by
 unfold iu at h; unfold dQ;cases h1 : aU c with
 | false => rfl
 | true =>
  rw [h1] at h;cases h2 : (aD c).isEmpty with
  | true => rfl
  | false =>
   rw [h2] at h;cases h3 : (c.kind == 9 && b) with
   | true => rfl
   | false => rw [h3] at h; cases h
theorem nR {c : dS} {b : Bool} (h : iu c b = false) (hg : ∀ (i : Nat) g, (aD c)[i]? = some g -> eS g = true) : dQ c b = true := by
 unfold iu at h; unfold dQ;rw [bC hg];cases h1 : aU c with
 | false => rw [h1] at h; cases h
 | true =>
  rw [h1] at h;cases h2 : (aD c).isEmpty with
  | true => rw [h2] at h; cases h
  | false =>
   rw [h2] at h;cases h3 : (c.kind == 9 && b) with
   | true => rw [h3] at h; cases h
   | false => rfl
theorem rf {l : List dS} {j : Nat} {c : dS} (h : l[j]? = some c) (hc : dQ c (decide (j + 1 < l.length)) = false) : eI ⟨l⟩ = false := by
 have h1 : fD l = false := by
  cases h2 : fD l with
  | false => rfl
  | true => rw [(jq l).1 h2 j c h] at hc; cases hc
 unfold eI;simp only [h1, Bool.and_false]
def fL (l : List dS) : Bool := !(decide (1 <= l.length) && (decide (l.length <= 64) && mz l))
theorem pK {l : List dS} (h : fL l = true) : eI ⟨l⟩ = false := by
 unfold fL at h; unfold eI;cases h1 : decide (1 <= l.length) with
 | false => rfl
 | true =>
  cases h2 : decide (l.length <= 64) with
  | false => rfl
  | true =>
   cases h3 : mz l with
   | false => rfl
   | true => rw [h1, h2, h3] at h; cases h
theorem pL {l : List dS} (h : fL l = false) (hc : ∀ (i : Nat) c, l[i]? = some c -> dQ c (decide (i + 1 < l.length)) = true) : eI ⟨l⟩ = true := by
 unfold fL at h; unfold eI;rw [(jq l).2 hc];cases h1 : decide (1 <= l.length) with
 | false => rw [h1] at h; cases h
 | true =>
  cases h2 : decide (l.length <= 64) with
  | false => rw [h1, h2] at h; cases h
  | true =>
   cases h3 : mz l with
   | false => rw [h1, h2, h3] at h; cases h
   | true => rfl
theorem wv {B : Nat} {w : World} {cs : List Value} {c : dS} (h : df B w cs c) : cs.length = 22 /\ (cs.toArray.all (·.oneCell') = true) /\ cs[0]? = some (.int .i64 c.kind) := by
 obtain ⟨kd, l1, l2, ex, vr, l5, un, l7, l8, l9, l10, l11, de⟩ := c;obtain ⟨op, nm, xv, xns, xaz⟩ := ex;obtain ⟨a1, c1, a2, c2, xe, a5, c5, a7, c7, a8, c8, a9, c9, a10, c10, a11, c11, rfl, -, -, -, -, -, hE, -⟩ := h;obtain ⟨xk, xb, xi, xs, xl, xks, xla, xlc, xka, xkc, xna, xnc, xxa, xxc, rfl, rfl, -⟩ := hE.cells;exact ⟨rfl, by simp [Value.oneCell'], rfl⟩
theorem yO {C : Nat} {W0 : World} (u : aq C W0) (hC : C <= W0.heap.size) (zs vals : List Value) (t : TypeId) (hl : vals.length = zs.length) :
    ∃ u2 : aq C W0, (u.w.alloc (.cells zs.toArray t)).setCells u.w.heap.size 0 vals = u2.w /\ Below u.w.heap.size u.w u2.w /\ ae u2.w u.w.heap.size vals t /\ u.w.heap.size < u2.w.heap.size /\ (u.w.alloc (.cells zs.toArray t)).there u.w.heap.size 0 vals.length := by
 have hs : ∀ (vs cur : List Value) (o : Nat), o + vs.length = cur.length -> jm cur o vs = cur.take o ++ vs := by
  exact Sq889613
 exact wa u hC zs vals t (by rw [hs _ _ _ (by omega)]; rfl) (by omega)
/-! Worlds that a builder's writers leave. -/
def Kp.trans {B b : Nat} {W : World} (u : Kp B b W) (v : Kp B b u.w) : Kp B b W := ⟨v.w, u.below.trans v.below, u.kept.trans v.kept⟩
theorem pM {α : Type} (l : List α) : l.isEmpty = ((l.length : Int) == 0) := by
 cases l with
 | nil => rfl
 | cons a t => rw [List.isEmpty_cons, List.length_cons]; symm; rw [beq_eq_false_iff_ne]; omega
theorem tW {l : List dS} {c : dS} (h : l[l.length - 1]? = some c) : mz l = (ik c.kind || c.kind == 9) := by
 unfold mz;rw [List.getLast?_eq_getElem?, h]
theorem rg (s : vC) (HG : ∀ c ∈ s.clauses, pH c) (cs : List Value) (B : Nat) (w : World) (hX : j7 B w cs s) (hB : B <= w.heap.size) (hML : ML w) (hw : nu s <= 1048576) :
    Calls Tryz.prog 30 #[.agg cs.toArray] w fun e w' => e = .returned (.bool (eI s)) /\ Below w.heap.size w w' := by
 obtain ⟨l⟩ := s;obtain ⟨a, cc, rfl, hsl, hR⟩ := hX;simp only at hsl hR ⊢;obtain ⟨n, hn⟩ := nam l.length;rw [hn] at hsl ⊢;obtain ⟨Q, hQ⟩ : ∃ Q, eI ⟨l⟩ = Q := ⟨_, rfl⟩;rw [hQ];have HW : Hid (∀ c ∈ l, aT c <= 1048576) := aa (fun c hc => by have := cV (f := aT) hc; unfold nu at hw; simp only at hw; omega);obtain ⟨W0, p0, hW0, hp0, hsz, hbe, hce⟩ := bg w [.slice a n cc] 35;have e0 := fun u => hce u 0 _ rfl
 have HAT : Hid (∀ (j : Nat) c, l[j]? = some c -> ∃ bb off cs, a = some ⟨bb, off, none⟩ /\ bb < B /\ cs.length = 22 /\ (∀ (u : aq (w.heap.size + 1) W0) (q : Nat) v, cs[q]? = some v -> u.w.cell? ⟨bb, off + j * 22 + q, none⟩ = some v) /\ ∀ u : aq (w.heap.size + 1) W0, df B u.w cs c) := aa (fun j c hc => hR.at_gen (R := fun v => df B v) (f := fun u : aq (w.heap.size + 1) W0 => u.w) hB hbe (fun u cs x h => h.below (hbe u) hB) hc);have HML : Hid (∀ u : aq (w.heap.size + 1) W0, ML u.w) := aa (fun u => hML.below (hbe u));obtain ⟨HN, HQ, HBE, HSZ, HW0, HP0, HB⟩ := hd7 hn hQ hbe hsz hW0 hp0 hB;have hsc : n <= 9223372036854775807 := by have := hsl.1; omega
 clear hR hn hQ hbe hsz hW0 hp0 hce hB hML hw hsl;go_enter Tryz.func30, Tryz.ntmps30;go_upto_region 1 with fail;rw [HW0.out, HP0.out];go_upto_region 2 with fail
 (try simp only [List.append_eq, List.cons_append, List.nil_append])
 obtain ⟨sb, hsb⟩ := nam (fL l);have HSB := aa hsb;clear hsb;go_cut [41] (fun v wx => v = .bool sb /\ wx = p0.w);case first =>
  by_cases h0 : n < 1
  ·have hsb : sb = true := by rw [<- HSB.out]; unfold fL; rw [decide_eq_false (by have := HN.out; omega)]; rfl
   subst hsb;have d0 : decide ((n : Int) < 1) = true := by simp; omega
   go_wp2_with fail;go_meet;exact ⟨rfl, rfl⟩
  by_cases h1 : 64 < n
  ·have hsb : sb = true := by rw [<- HSB.out]; unfold fL; rw [decide_eq_false (p := l.length <= 64) (by have := HN.out; omega)]; simp
   subst hsb;have d0 : decide ((n : Int) < 1) = false := by simp; omega
   have d1 : decide ((64 : Int) < (n : Int)) = true := by simp; omega
   go_wp2_with fail;go_meet;exact ⟨rfl, rfl⟩
  obtain ⟨c, hc⟩ := aB (l := l) (j := n - 1) (by have := HN.out; omega);obtain ⟨bb, off, cs, rfl, hbb, hcl, hcell, hic⟩ := HAT.out _ c hc;have hk0 : p0.w.cell? ⟨bb, off + (n - 1) * 22, none⟩ = some (.int .i64 c.kind) := hcell p0 0 _ (wv (hic p0)).2.2;have hidx : (((n : Int) - 1).toNat) = n - 1 := by omega
  have hwr : IntKind.i64.wrap ((n : Int) - 1) = (n : Int) - 1 := IntWalk.i64_in _ (by omega);have hi1 : (0 : Int) <= (n : Int) - 1 := by omega
  have hi2 : (n : Int) - 1 < (n : Int) := by omega
  have d0 : decide ((n : Int) < 1) = false := by simp; omega
  have d1 : decide ((64 : Int) < (n : Int)) = false := by simp; omega
  have hsb : sb = !(ik c.kind || c.kind == 9) := by rw [<- HSB.out]; unfold fL; rw [tW (by rw [HN.out]; exact hc), decide_eq_true (by have := HN.out; omega), decide_eq_true (by have := HN.out; omega)]; rfl
  obtain ⟨kd, hkd⟩ := nam c.kind;rw [hkd] at hk0 hsb;have HPW := aa (px kd p0.w);obtain ⟨wb, hwb⟩ := nam (ik kd);obtain ⟨kb, hkb⟩ := nam ((kd == 9));rw [hwb] at HPW hsb;rw [hkb] at hsb;subst hsb;clear hcell hic hkd hwb hc;have hkb' : (kd != 9) = !kb := by rw [<- hkb]; rfl
  cases wb <;> cases kb <;>
    (go_wp2_with fail
     refine HPW.out.mono ?_;rintro e w2 ⟨rfl, rfl⟩;go_wp2_with fail;go_meet;exact ⟨rfl, rfl⟩)
 case rest =>
  obtain ⟨rfl, hwc⟩ := hcut;subst hwc;cases sb with
  | true =>
   have hq : Q = false := by rw [<- HQ.out]; exact pK HSB.out
   subst hq;go_wp2_with fail;go_ret;exact ⟨rfl, HBE.out _⟩
  | false =>
   have HBAD : Hid (∀ (j : Nat) c, l[j]? = some c -> dQ c (decide (j + 1 < n)) = false -> Q = false) := aa (fun j c h hc => by rw [<- HQ.out]; exact rf h (by rw [HN.out]; exact hc));go_wp2_with fail
   go_loopw [45] (fun iv wr => ∃ j : Nat, iv = .int .i64 j /\ j <= n /\ Hid (∀ (i : Nat) c, i < j -> l[i]? = some c -> dQ c (decide (i + 1 < n)) = true) /\ ∃ u : aq (w.heap.size + 1) W0, wr = u.w) (fun iv _ => n - (intOf iv).toNat)
   case atStart => exact ⟨0, rfl, Nat.zero_le _, aa (fun i c h => by omega), p0, rfl⟩
   case round =>
    obtain ⟨j, rfl, hj, HV, pu, rfl⟩ := hrel
    by_cases hlt : j < n
    ·have hlt' : (j : Int) < n := by omega
     have hj0 : (0 : Int) <= (j : Int) := by omega
     have hwi : IntKind.i64.wrap ((j : Int) + 1) = (j : Int) + 1 := IntWalk.i64_in _ (by omega);obtain ⟨c, hc⟩ := aB (l := l) (j := j) (by have := HN.out; omega);have HC := aa hc;have HWC : Hid (aT c <= 1048576) := aa (HW.out c (List.mem_of_getElem? hc));clear hc;obtain ⟨bb, off, cs, rfl, hbb, hcl, hcell, hic⟩ := HAT.out j c HC.out;have HRG : Hid (pu.w.rangeAt bb (off + j * 22) cs) := aa (fun q v hv => hcell pu q v hv);have hone := (wv (hic pu)).2;obtain ⟨p1, hbx, hbb1, hbk, hlt1, hth⟩ := yO pu HSZ.out ab cs 71 hcl;have HX1 := aa (show World.setCells _ _ 0 (cs.toArray).toList = p1.w from hbx);have HT1 : Hid (World.there _ pu.w.heap.size 0 cs.toArray.size) := aa hth;have HONE := aa hone.1;have HK1 := aa hbk;have HRK : Hid (p1.w.rangeAt pu.w.heap.size 0 cs) := aa (bq hbk);have hk1 : p1.w.cell? ⟨pu.w.heap.size, 0, none⟩ = some (.int .i64 c.kind) := hbk.cell hone.2;have HGC := aa (HG c (List.mem_of_getElem? HC.out) cs B p1.w (hic p1) (by have := HB.out; have := (HBE.out p1).size; omega) HWC.out);have HCL := aa (show (Tryz.prog.info? 71).map (·.size) = some cs.length from by rw [hcl]; kernel_rfl);have HCL2 := aa (show (Tryz.prog.info? 71).map (·.size) = some cs.toArray.size from by rw [List.size_toArray, hcl]; kernel_rfl);clear hcell hic hone hbx hbb1 hbk hlt1 hth hcl hbb;go_upto_region 7 with (first | (refine wpList_load_mid rfl 71 _ rfl bb (off + j * 22) rfl cs _ HRG.out Tryz.underlying71 rfl HCL.out ?_) | (refine wpList_store_mid rfl 71 _ _ rfl pu.w.heap.size 0 cs.toArray rfl rfl HT1.out HCL2.out HONE.out ?_));rw [HX1.out];go_wp2_with (refine wpList_load_mid rfl 71 _ rfl pu.w.heap.size 0 rfl cs _ HRK.out Tryz.underlying71 rfl HCL.out ?_);refine HGC.out.mono ?_;rintro e w2 ⟨ga, gn, gc, rfl, hgn, hgs, hgr, hgb⟩;obtain ⟨p2, hp2⟩ := kT p1 HSZ.out hgb;subst hp2;have hk2 : p2.w.cell? ⟨pu.w.heap.size, 0, none⟩ = some (.int .i64 c.kind) := by rw [hgb.cell (by show pu.w.heap.size < _; exact HK1.out.lt)]; exact hk1
     have HGN := aa hgn;have hgsc : gn <= 9223372036854775807 := by have := hgs.1; omega
     have HGR := aa (hgr.row (by have := HB.out; have := (HBE.out p2).size; omega));clear hgn hgs hgr hgb hk1;obtain ⟨kd, hkd⟩ := nam c.kind;rw [hkd] at hk2;have HKD := aa hkd;clear hkd;obtain ⟨gb, hgb⟩ := nam (aU c);rw [hgb];have HGB := aa hgb;clear hgb;obtain ⟨hb, hhb⟩ := nam (iu c (decide (j + 1 < n)));have HHB := aa hhb;clear hhb;go_upto_region 8 with fail
     (try simp only [List.append_eq, List.cons_append, List.nil_append])
     go_cut [72] (fun v wx => v = .bool hb /\ wx = p2.w);case first =>
      obtain ⟨q2, hq2⟩ : ∃ b, ((gn : Int) == 0) = b := ⟨_, rfl⟩;obtain ⟨q3, hq3⟩ := nam ((kd == 9));obtain ⟨q4, hq4⟩ : ∃ b, decide ((j : Int) + 1 < (n : Int)) = b := ⟨_, rfl⟩;have hhb : hb = (!gb || (q2 || (q3 && q4))) := by
       rw [<- HHB.out]; unfold iu; rw [HGB.out, HKD.out, hq3, <- hq4];rw [show (aD c).isEmpty = q2 from by rw [<- hq2, HGN.out]; exact pM _];rw [show decide (j + 1 < n) = decide ((j : Int) + 1 < (n : Int)) from by rw [decide_eq_decide]; omega]
      subst hhb;cases gb <;> cases q2 <;> cases q3 <;> cases q4 <;>
        (go_wp2_with fail
         go_meet;exact ⟨rfl, rfl⟩)
     case rest =>
      obtain ⟨rfl, hwc⟩ := hcut;subst hwc;cases hb with
      | true =>
       have hq : Q = false := HBAD.out j c HC.out (nQ HHB.out);subst hq;go_wp2_with fail;go_ret;exact ⟨rfl, HBE.out _⟩
      | false =>
       obtain ⟨C2, hC2⟩ := nam p2.w.heap.size;have HC2 := aa hC2;clear hC2;have HBE2 : Hid (∀ v : aq p2.w.heap.size p2.w, Below w.heap.size w v.w) := aa (fun v => (HBE.out p2).trans (v.below.mono (HBE.out p2).size));have HML2 : Hid (∀ v : aq p2.w.heap.size p2.w, ML v.w) := aa (fun v => (HML.out p2).below v.below);have HAT2 : Hid (∀ (k : Nat) g, (aD c)[k]? = some g -> ∃ bb off cs, ga = some ⟨bb, off, none⟩ /\ bb < p2.w.heap.size /\ cs.length = 4 /\ (∀ (v : aq p2.w.heap.size p2.w) (q : Nat) x, cs[q]? = some x -> v.w.cell? ⟨bb, off + k * 4 + q, none⟩ = some x) /\ ∀ v : aq p2.w.heap.size p2.w, kR p2.w.heap.size v.w cs g) := aa (fun k g hg => HGR.out.at_gen (R := fun v => kR p2.w.heap.size v) (f := fun v : aq p2.w.heap.size p2.w => v.w) (Nat.le_refl _) (fun v => v.below) (fun v cs x h => h.below v.below (Nat.le_refl _)) hg);go_wp2_with fail
       go_loopw [75] (fun iv wr => ∃ k : Nat, iv = .int .i64 k /\ k <= gn /\ Hid (∀ (i : Nat) g, i < k -> (aD c)[i]? = some g -> eS g = true) /\ ∃ v : aq p2.w.heap.size p2.w, wr = v.w) (fun iv _ => gn - (intOf iv).toNat)
       case atStart =>
        obtain ⟨v, hv⟩ := aq.start p2.w.heap.size p2.w;exact ⟨0, rfl, Nat.zero_le _, aa (fun i g h => by omega), v, hv⟩
       case round =>
        obtain ⟨k, rfl, hk, HV2, v, rfl⟩ := hrel
        by_cases hlt2 : k < gn
        ·have hlt2' : (k : Int) < gn := by omega
         have hk0 : (0 : Int) <= (k : Int) := by omega
         have hwk : IntKind.i64.wrap ((k : Int) + 1) = (k : Int) + 1 := IntWalk.i64_in _ (by omega);obtain ⟨g, hg⟩ := aB (l := aD c) (j := k) (by have := HGN.out; omega);have HGK := aa hg;have HWG : Hid (∀ p ∈ g.parts, cA p <= 1048576) := aa (fun p hp => Nat.le_trans (tV c g (List.mem_of_getElem? hg) p hp) HWC.out);clear hg;obtain ⟨gbb, goff, gcs, rfl, hgbb, hgl4, hgcell, hgr⟩ := HAT2.out k g HGK.out;have hgr0 : kR p2.w.heap.size p2.w gcs g := hgr ⟨p2.w, Below.refl _ _⟩;obtain ⟨pa, pc, rfl, hps, hpr⟩ := hgr0;obtain ⟨word, parts, least, most⟩ := g;simp only at hps hpr hgcell HWG;obtain ⟨pn, hpn⟩ := nam parts.length;rw [hpn] at hps hgcell;have HPN := aa hpn;clear hpn;have g0 : v.w.cell? ⟨gbb, goff + k * 4, none⟩ = some _ := hgcell v 0 _ rfl;have g1 := hgcell v 1 _ rfl;have g2 := hgcell v 2 _ rfl;have g3 := hgcell v 3 _ rfl;obtain ⟨v1, hal, hvb, hbk, hvl⟩ := gT v (Nat.le_refl _) [.string word, .slice pa pn pc, .int .i64 least, .int .i64 most] 103;have HXv1 := aa hal;have b0 : v1.w.cell? ⟨v.w.heap.size, 0, none⟩ = some _ := hbk.cell (i := 0) rfl;have b1 : v1.w.cell? ⟨v.w.heap.size, 1, none⟩ = some _ := hbk.cell (i := 1) rfl;have b2 : v1.w.cell? ⟨v.w.heap.size, 2, none⟩ = some _ := hbk.cell (i := 2) rfl;have b3 : v1.w.cell? ⟨v.w.heap.size, 3, none⟩ = some _ := hbk.cell (i := 3) rfl;have hpsc : pn <= 9223372036854775807 := by have := hps.1; omega
         have HPR := aa hpr;clear hal hvb hbk hvl hgcell hgr hps hpr hgl4 hgbb;go_upto_region 13 with fail;rw [HXv1.out];clear g0 g1 g2 g3
         by_cases h5 : (pn : Int) < least
         ·have d5 : decide ((pn : Int) < least) = true := decide_eq_true h5;have hq : Q = false := HBAD.out j c HC.out (gX HGK.out (rd (by show (parts.length : Int) < least; rw [HPN.out]; exact h5)));subst hq;go_wp2_with fail;go_ret;exact ⟨rfl, HBE2.out _⟩
         have d5 : decide ((pn : Int) < least) = false := decide_eq_false h5
         by_cases h6 : most < (pn : Int)
         ·have d6 : decide (most < (pn : Int)) = true := decide_eq_true h6;have hq : Q = false := HBAD.out j c HC.out (gX HGK.out (pI (by show most < (parts.length : Int); rw [HPN.out]; exact h6)));subst hq;go_wp2_with fail;go_ret;exact ⟨rfl, HBE2.out _⟩
         have d6 : decide (most < (pn : Int)) = false := decide_eq_false h6;go_wp2_with fail
         go_loopw [96] (fun iv wr => ∃ m : Nat, iv = .int .i64 m /\ m <= pn /\ Hid (∀ (i : Nat) p, i < m -> parts[i]? = some p -> mr p = true) /\ ∃ v : aq p2.w.heap.size p2.w, wr = v.w) (fun iv _ => pn - (intOf iv).toNat)
         case atStart => exact ⟨0, rfl, Nat.zero_le _, aa (fun i p h => by omega), v1, rfl⟩
         case round =>
          obtain ⟨m, rfl, hm, HV3, v2, rfl⟩ := hrel
          by_cases hlt3 : m < pn
          ·have hlt3' : (m : Int) < pn := by omega
           have hm0 : (0 : Int) <= (m : Int) := by omega
           have hwm : IntKind.i64.wrap ((m : Int) + 1) = (m : Int) + 1 := IntWalk.i64_in _ (by omega);obtain ⟨p, hp⟩ := aB (l := parts) (j := m) (by have := HPN.out; omega);have HPM := aa hp;have hwp := HWG.out p (List.mem_of_getElem? hp);obtain ⟨vs, hcs, hvl, hvp⟩ := HPR.out;obtain ⟨pv0, hpv, hip⟩ := hvp m p hp;rcases hcs with hcs | ⟨pb, po, rfl, hpb, hpc⟩
           ·rw [hcs] at hpv; cases hpv
           have hcp : v2.w.cell? ⟨pb, po + m, none⟩ = some pv0 := by rw [v2.below.cell (by show pb < _; exact hpb)]; exact hpc m _ hpv
           obtain ⟨tid, pv, f, rfl, hmeth, hcf, hcall⟩ := wu p pv0 p2.w.heap.size v2.w (hip.below v2.below (Nat.le_refl _)) v2.below.size (HML2.out v2) hwp;have HCALL := aa hcall;clear hcall hvl hvp hpv hip hpc hpb hp hwp;obtain ⟨pq, hpq⟩ := nam (mr p);rw [hpq] at HCALL;have HPQ := aa hpq;clear hpq;go_wp2_with fail;refine HCALL.out.mono ?_;rintro e w4 ⟨rfl, hb4⟩;obtain ⟨v3, hv3⟩ : ∃ v3 : aq p2.w.heap.size p2.w, w4 = v3.w := kT v2 (Nat.le_refl _) hb4;subst hv3;clear hb4 hcp;cases pq with
           | false =>
            have hq : Q = false := HBAD.out j c HC.out (gX HGK.out (rc HPM.out HPQ.out));subst hq;go_wp2_with fail;go_ret;exact ⟨rfl, HBE2.out _⟩
           | true =>
            go_wp2_with fail;go_roundw;case rel => exact ⟨m + 1, by go_num, by omega, aa (fun i y hi hy => (Nat.lt_or_ge i m).elim (fun h => HV3.out i y h hy) (fun h => by rw [show i = m from by omega, HPM.out] at hy; rw [<- Option.some.inj hy]; exact HPQ.out)), v3, rfl⟩
            case measure => simp [intOf]; omega
          ·have hlt3' : ¬ (m : Int) < pn := by omega
           have HGG : Hid (eS ⟨word, parts, least, most⟩ = true) := aa (pJ (by show ¬ (parts.length : Int) < least; have := HPN.out; omega) (by show ¬ most < (parts.length : Int); have := HPN.out; omega) (fun i p hp => HV3.out i p (by have h1 := (List.getElem?_eq_some_iff.1 hp).1; have h2 := HPN.out; simp only at h1; omega) hp));go_wp2_with fail;go_roundw;case rel => exact ⟨k + 1, by go_num, by omega, aa (fun i y hi hy => (Nat.lt_or_ge i k).elim (fun h => HV2.out i y h hy) (fun h => by rw [show i = k from by omega, HGK.out] at hy; rw [<- Option.some.inj hy]; exact HGG.out)), v2, rfl⟩
           case measure => simp [intOf]; omega
        ·have hlt2' : ¬ (k : Int) < gn := by omega
         have HCG : Hid (dQ c (decide (j + 1 < n)) = true) := aa (nR HHB.out (fun i g hg => HV2.out i g (by have h1 := (List.getElem?_eq_some_iff.1 hg).1; have h2 := HGN.out; omega) hg));obtain ⟨p3, hp3⟩ := kT p2 HSZ.out v.below;have HU3 := aa hp3;clear hp3;go_wp2_with fail;go_roundw;case rel => exact ⟨j + 1, by go_num, by omega, aa (fun i y hi hy => (Nat.lt_or_ge i j).elim (fun h => HV.out i y h hy) (fun h => by (obtain rfl : i = j := by omega); rw [HC.out] at hy; rw [<- Option.some.inj hy]; exact HCG.out)), p3, HU3.out⟩
         case measure => simp [intOf]; omega
    ·have hlt' : ¬ (j : Int) < n := by omega
     have hq : Q = true := by rw [<- HQ.out]; exact pL HSB.out (fun i c hc => by rw [HN.out]; exact HV.out i c (by have h1 := (List.getElem?_eq_some_iff.1 hc).1; have h2 := HN.out; omega) hc)
     subst hq;go_wp2_with fail;go_ret;exact ⟨rfl, HBE.out _⟩
theorem iw {size : Nat} : ∀ (css : List (List Value)) (i j : Nat) (cs : List Value) (v : Value), (∀ cs ∈ css, cs.length = size) -> css[i]? = some cs -> cs[j]? = some v -> css.flatten[i * size + j]? = some v
  | [], _, _, _, _, _, h, _ => by simp at h
  | c :: r, 0, j, cs, v, hl, h, hv => by
    simp only [List.getElem?_cons_zero] at h;have h := Option.some.inj h;subst h;rw [List.flatten_cons, Nat.zero_mul, Nat.zero_add, List.getElem?_append_left (List.getElem?_eq_some_iff.1 hv).1];exact hv
  | c :: r, i + 1, j, cs, v, hl, h, hv => by
    have h4 := hl c (List.mem_cons_self ..);rw [List.getElem?_cons_succ] at h;rw [List.flatten_cons, List.getElem?_append_right (by rw [Nat.add_mul, Nat.one_mul]; omega), h4, show (i + 1) * size + j - size = i * size + j from by rw [Nat.add_mul, Nat.one_mul]; omega];exact iw r i j cs v (fun cs hc => hl cs (List.mem_cons_of_mem _ hc)) h hv
inductive fW {α : Type} (R : List Value -> α -> Prop) (size : Nat) : List (List Value) -> List α -> Prop where
  | nil : fW R size [] []
  | cons {cs x css l} (h : R cs x) (hl : cs.length = size) (hs : fW R size css l) : fW R size (cs :: css) (x :: l)
theorem fW.lens {α : Type} {R : List Value -> α -> Prop} {size : Nat} {css : List (List Value)} {l : List α} (h : fW R size css l) : ∀ cs ∈ css, cs.length = size := by
 induction h with
 | nil => intro cs hc; simp at hc
 | cons h hl hs ih =>
  intro cs hc;rcases List.mem_cons.1 hc with rfl | hc
  ·exact hl
  ·exact ih cs hc
theorem fW.get {α : Type} {R : List Value -> α -> Prop} {size : Nat} {css : List (List Value)} {l : List α} (h : fW R size css l) : ∀ (i : Nat) x, l[i]? = some x -> ∃ cs, css[i]? = some cs /\ cs.length = size /\ R cs x := by
 induction h with
 | nil => intro i g hg; simp at hg
 | cons h hl hs ih =>
  intro i g hg;cases i with
  | zero => simp only [List.getElem?_cons_zero, Option.some.injEq] at hg; subst hg; exact ⟨_, rfl, hl, h⟩
  | succ i => rw [List.getElem?_cons_succ] at hg; exact ih i g hg
theorem kX {α : Type} {R : List Value -> α -> Prop} {size B : Nat} {w : World} {b : Nat} {t : TypeId} {cells : List Value} {css : List (List Value)} {l : List α} (hb : ae w b cells t) (hc : cells = css.flatten) (hbB : b < B) (h : fW R size css l) : cg R size B w (some ⟨b, 0, none⟩) l := by
 intro i x hx;obtain ⟨cs, h1, h2, h3⟩ := h.get i x hx;refine ⟨b, 0, cs, rfl, hbB, h2, fun j v hv => ?_, h3⟩;rw [Nat.zero_add];exact hb.cell (by rw [hc]; exact iw css i j cs v h.lens h1 hv)
def Ci (op : Int) (nm : ByteArray) (xa : Option Addr) (n : Nat) : List Value := [.int .i64 op, .string nm, .int .i64 0, .bool false, .int .i64 0, .string ⟨#[]⟩, .slice none 0 0, .slice none 0 0, .slice none 0 0, .slice xa n n]
theorem pN {B : Nat} {w : World} {op : Int} {nm : ByteArray} {xa : Option Addr} {az : List Ex} (ho : bJ op) (hs : aZ xa az.length az.length) (hr : cg (bK B w) 10 B w xa az) : bK B w (Ci op nm xa az.length) (.mk op nm cQ [] az) := by
 unfold bK;exact ⟨kI, none, 0, xa, az.length, rfl, ho, fs _ _, al, hs, da.nil, gQ.2 hr⟩
end Go.Proofs.YteljlahcdipilaaGreat

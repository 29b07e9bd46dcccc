/- Parts Q38, Q81, Q39, Q71, Q86, Q87 of this seat (pruned, scripts that are alike kept once as default arguments: q1, q2, ..). Conditions: each says its own. -/
import Derived.Test.YteljlahcdipilaaGreatG32
set_option linter.unusedSimpArgs false
set_option linter.unusedVariables false
set_option maxRecDepth 1000000
set_option maxHeartbeats 64000000
namespace Go.Proofs.YteljlahcdipilaaGreat
open Go.RowKit Go.Shelf
def cM : List am -> Nat
  | [] => 0
  | t :: r => 16 + 16 * t.t.length + cM r
theorem ce (l : List am) : cM l.tail <= cM l := by
 cases l with
 | nil => exact Nat.le_refl _
 | cons t r => show cM r <= 16 + 16 * t.t.length + cM r; omega
theorem i3 {l : List am} (h : (nx l).k ≠ 6) : cM l = 16 + 16 * (nx l).t.length + cM l.tail := by
 cases l with
 | nil => exact absurd rfl h
 | cons t r => rfl
theorem lx {K : Nat} {s : List UInt8} {l : List am} (hK : K ≠ 6) (h : ck K s l = true) : cM l = 16 + 16 * s.length + cM l.tail := by
 have e := fX h;rw [i3 (by rw [e.1]; exact hK), e.2]
theorem nY (l : List am) : cM (fV l).2 + (fV l).1.size <= cM l := by
 unfold fV
 split
 ·rename_i h
  have h2 : cM l = 16 + 16 * (nx l).t.length + cM l.tail := i3 (by rw [h]; decide);show cM l.tail + (ai (nx l).t).size <= cM l;rw [aj]; omega
 ·exact Nat.le_refl _
def wG : G -> V -> Nat
  | .expr _, v | .loop _ _ _, v | .unary _, v | .post _, v | .atom, v => 2 * ee v.ex
  | .list _, v | .items _ _, v | .maybe _, v => 2 * dm v.exs
  | .props, v | .pairs _ _, v => 2 * ju v.strs + 2 * dm v.exs
  | .labels _, v | .vars _, v => ju v.strs
  | .node, v => br v.node
  | .edge, v | .edgeP _ _ _, v | .edgeE _ _ _ _ _, v => bs v.edge
  | .path, v | .segs _ _, v => bt v.path
  | .paths, v | .more _, v => (v.paths.map bt).sum
  | .item, v => bB v.item
  | .its _, v => (v.items.map bB).sum
  | .sorts, v | .sortL _, v => (v.sorts.map bE).sum
  | .rows _, v | .clause _, v => aT v.clause
  | .setL _ _, v => (v.sets.map bv).sum
  | .stmt _, v => (v.clauses.map aT).sum
def bX : G -> Nat
  | .loop _ _ t | .post t => 2 * ee t
  | .items _ l => 2 * dm l
  | .pairs ks vs => 2 * ju ks + 2 * dm vs
  | .labels l | .vars l => ju l
  | .edgeP _ a b => 1 + a.size + b.size
  | .edgeE _ a b ks vs => 1 + a.size + b.size + ju ks + dm vs
  | .segs ns es => 1 + (ns.map br).sum + (es.map bs).sum
  | .more l => (l.map bt).sum
  | .its l => (l.map bB).sum
  | .sortL l => (l.map bE).sum
  | .setL _ l => (l.map bv).sum
  | .stmt l => (l.map aT).sum
  | .clause _ => 8
  | _ => 0
def ca : G -> Nat
  | .expr _ | .unary _ | .atom | .node => 8
  | .edge | .item | .path => 4
  | .props => 16
  | _ => 0
def Wt (o : O) (m : V -> Nat) (c n : Nat) : Prop := ∀ v r, o = some (.ok v r) -> m v + cM r + c <= n
section
variable {o : O} {m m1 : V -> Nat} {c c1 n n1 : Nat} {l : List am}
theorem cE {v : V} {r : List am} (h : m v + cM r + c <= n) : Wt (dX v r) m c n := fun v' r' e => by cases e; exact h
theorem bH {r : List am} : Wt (some (.bad r)) m c n := fun v' r' e => by cases e
theorem bN {K : V -> List am -> O} (h1 : Wt o m1 c1 n1) (hk : ∀ v r, m1 v + cM r + c1 <= n1 -> Wt (K v r) m c n) : Wt (bnd o K) m c n := fun v' r' e => by
  cases o with
  | none => cases e
  | some p => cases p with
    | ok v r => exact hk v r (h1 v r rfl) v' r' e
    | bad r => cases e
theorem bw {K : Nat} {s : List UInt8} {k : List am -> O} (hK : K ≠ 6) (hk : cM l = 16 + 16 * s.length + cM l.tail -> Wt (k l.tail) m c n) : Wt (must (ck K s l) l k) m c n := by
 unfold must
 split
 ·rename_i h; exact hk (lx hK h)
 ·exact bH
theorem bR {k : ByteArray -> List am -> O} (hk : ∀ s, cM l = 16 + 16 * s.size + cM l.tail -> Wt (k s l.tail) m c n) : Wt (fB l k) m c n := by
 unfold fB
 split
 ·rename_i h; exact hk _ (by rw [aj]; exact i3 (by omega))
 ·exact bH
theorem bz {k : ByteArray -> List am -> O} (hk : ∀ s, cM l = 16 + 16 * s.size + cM l.tail -> Wt (k s l.tail) m c n) : Wt (dY l k) m c n := by
 unfold dY
 split
 ·rename_i h; exact hk _ (by rw [aj]; exact i3 (by omega))
 ·exact bH
theorem cF {K : Nat} {s : List UInt8} {a b : O} (hK : K ≠ 6) (h1 : cM l = 16 + 16 * s.length + cM l.tail -> Wt a m c n) (h2 : Wt b m c n) : Wt (if ck K s l = true then a else b) m c n := by
 split
 ·rename_i h; exact h1 (lx hK h)
 ·exact h2
theorem bA {K : Nat} {a b : O} (hK : K ≠ 6) (h1 : cM l = 16 + 16 * (ai (nx l).t).size + cM l.tail -> Wt a m c n) (h2 : Wt b m c n) : Wt (if (nx l).k = K then a else b) m c n := by
 split
 ·rename_i h; exact h1 (by rw [aj]; exact i3 (by rw [h]; exact hK))
 ·exact h2
end
theorem ay : ju [] = 0 := rfl
theorem aw (a : List ByteArray) (b : ByteArray) : ju (a ++ [b]) = ju a + (b.size + 1) := by unfold ju; simp
theorem an (a : List Ex) (b : Ex) : dm (a ++ [b]) = dm a + ee b := by rw [fy, fy]; simp
theorem dO : (⟨#[]⟩ : ByteArray).size = 0 := rfl
theorem nZ (op : Int) (nm : ByteArray) (v : Vt) (ns : List ByteArray) (az : List Ex) : ee (.mk op nm v ns az) = 1 + nm.size + uD v + ju ns + dm az := by rw [ee]
theorem ao (t : Ex) (l : List Ex) : dm (t :: l) = ee t + dm l := by rw [dm]
theorem av : dm [] = 0 := by rw [dm]
theorem xA (k : Int) (b : Bool) (i : Int) (s : ByteArray) : uD (.mk k b i s [] []) = 1 + s.size := by
 rw [uD, sP]; simp
theorem xB (t : Vt) : 1 <= uD t := by cases t; rw [uD]; omega
theorem Ac : uD cQ = 1 := by unfold cQ; rw [xA, dO]
theorem aW (op : Int) (nm : ByteArray) (l : List Ex) : ee (mE op nm l) = 2 + nm.size + dm l := by unfold mE; rw [nZ, Ac, ay]; omega
theorem aX (k : Int) (b : Bool) (i : Int) (s : ByteArray) : ee (mV (.mk k b i s [] [])) = 2 + s.size := by unfold mV; rw [nZ, xA, ay, av, dO]; omega
theorem aY : ee (mV cQ) = 2 := by unfold cQ; rw [aX, dO]
theorem cG (t : Ex) : (v7 t).size + 2 <= ee t := by
 obtain ⟨op, nm, v, ns, az⟩ := t;rw [nZ];have := xB v;show nm.size + 2 <= _;omega
theorem aM (ks : List ByteArray) (vs : List Ex) : ee (.mk 6 ⟨#[]⟩ cQ ks vs) = 2 + ju ks + dm vs := by rw [nZ, Ac, dO]
theorem bT : ee cJ = 2 := by
 have h : cJ = mE 0 ⟨#[]⟩ [] := rfl;rw [h, aW, dO, av]
end Go.Proofs.YteljlahcdipilaaGreat
namespace Go.Proofs.YteljlahcdipilaaGreat
open Go.RowKit
theorem AV : ∀ (k : Nat) (l : List UInt8), l.length = k -> ∀ x rest, qd l = some (x, rest) -> x.length + rest.length <= l.length := by
 intro k
 induction k using Nat.strongRecOn with
 | _ k ih =>
  intro l hl x rest h;rw [ku] at h
  by_cases h0 : l.length = 0
  ·rw [if_pos h0] at h; cases h
  rw [if_neg h0] at h
  by_cases h1 : nb l 0 = 39
  ·rw [if_pos h1] at h;injection h with h
   injection h with hx hr
   subst hx hr;rw [List.length_drop, List.length_nil]; omega
  rw [if_neg h1] at h
  by_cases h2 : bad l
  ·rw [if_pos h2] at h; cases h
  rw [if_neg h2] at h;have hs := eU h2;have hsl := (dU (l := l)).2
  by_cases h3 : nb l 0 = 92
  ·rw [if_pos h3] at h;cases he : bQ l with
   | none => rw [he] at h; cases h
   | some p =>
    obtain ⟨y, q⟩ := p;rw [he] at h;dsimp only at h;cases hq : qd (l.drop q) with
    | none => rw [hq] at h; cases h
    | some p =>
     obtain ⟨x', rest'⟩ := p;rw [hq] at h;injection h with h
     injection h with hx hr
     dsimp only at hx hr;subst hx hr;have hel := dt he;have := ih (l.drop q).length (by rw [List.length_drop]; omega) (l.drop q) rfl x' _ hq;rw [List.length_drop] at this;rw [List.length_cons]; omega
  ·rw [if_neg h3] at h;cases hq : qd (l.drop (sg l)) with
   | none => rw [hq] at h; cases h
   | some p =>
    obtain ⟨x', rest'⟩ := p;rw [hq] at h;injection h with h
    injection h with hx hr
    dsimp only at hx hr;subst hx hr;have := ih (l.drop (sg l)).length (by rw [List.length_drop]; omega) (l.drop (sg l)) rfl x' _ hq;rw [List.length_drop] at this;rw [List.length_append, List.length_take]; omega
theorem zm {r : List UInt8} {t : am} {n : Nat} (hr : r ≠ []) (h : cu r = .tok t n) : t.t.length <= n := by
 have hsz := eA hr h;rcases fx h with ⟨_, _, _, _, ht, _⟩ | ⟨_, _, _, _, ht, _⟩ | ⟨_, _, _, _, ht, _⟩ | ⟨_, _, ⟨rest, hq, hn⟩, _⟩ | ⟨_, _, _, _, ht, _, hn, _⟩
 ·rw [ht, gi, List.length_take]; omega
 ·rw [ht, List.length_take]; omega
 ·rw [ht]; exact Nat.zero_le _
 ·have := AV _ _ rfl _ _ hq;rw [List.length_drop] at this;omega
 ·rw [ht, hn]; exact Nat.le_refl _
theorem mG : ∀ (f : Nat) (r : List UInt8) (p : Nat) (acc l : List (am × Nat)), db f r p acc = .ok (acc ++ l) -> cM (l.map Prod.fst) <= 16 * l.length + 16 * r.length
  | f, r, p, acc, l, h => by
    obtain ⟨l0, e, ho⟩ := iZ f r p acc _ h;obtain rfl := List.append_cancel_left e;have hle := cU aI r;rcases ho with ⟨hd, rfl⟩ | ⟨f', t, n, d, rfl, hd, ht, rfl, hne, h'⟩
    · show 16 + 16 * 0 + 0 <= 16 * 1 + 16 * r.length
      omega
    · have hsz := eA hd ht
      have hl := zm hd ht;have := mG f' _ _ _ _ h';rw [List.length_drop] at hsz;rw [List.length_drop, List.length_drop] at this;show 16 + 16 * t.t.length + cM (d.map Prod.fst) <= 16 * (d.length + 1) + 16 * r.length;omega
theorem jJ {s : List UInt8} {L : List (am × Nat)} (h : cv s = .ok L) : Tk L /\ 0 < L.length /\ L.length <= 4097 /\ (∀ (j : Nat) y, L[j]? = some y -> y.1.t.length <= 4294967296) /\ 1 + cM (aA L 0) <= 1048576 := by
 obtain ⟨hs, er, q, e, h2, h3⟩ := gl h;have hx : ∀ (j : Nat) y, L[j]? = some y -> dP y.1.n /\ y.1.t.length <= 16384 := fun j y hy => by
  have hm := List.mem_of_getElem? hy;rw [e] at hm;rcases List.mem_append.1 hm with hm | hm
  ·obtain ⟨r', n, g1, g2, g3⟩ := h2 y hm;have := jy g1 g3 (by omega);exact ⟨this.1, this.2.1⟩
  ·obtain rfl := List.mem_singleton.1 hm;exact ⟨(by show dP 0; unfold dP; omega), Nat.zero_le _⟩
 have hlen := tJ h;obtain ⟨f1, _⟩ := pZ h;have hph : cM (aA L 0) <= 16 * L.length + 16 * s.length := by
  have h' := h;unfold cv at h';rw [if_neg (by omega)] at h';exact mG _ s 0 [] L h'
 refine ⟨fun k x hk => ⟨(by have := (hx k x hk).1; unfold dP at this; unfold bJ; omega), fun hk6 => ?_⟩, by rw [e]; simp, hlen, fun j y hy => Nat.le_trans (hx j y hy).2 (by decide), by omega⟩;have hlt := (List.getElem?_eq_some_iff.1 hk).1;have h6 := (f1 k x hk).2.1;omega
end Go.Proofs.YteljlahcdipilaaGreat
namespace Go.Proofs.YteljlahcdipilaaGreat
open Go.RowKit Go.Shelf
theorem bS {m : V -> Nat} {c n K : Nat} {l : List am} {s : List UInt8} {p : Prop} [Decidable p] {a b : O} (hK : K ≠ 6) (h1 : p -> cM l = 16 + 16 * s.length + cM l.tail -> Wt a m c n) (h2 : Wt b m c n) : Wt (if p /\ ck K s l = true then a else b) m c n := by
 split
 ·rename_i h; exact h1 h.1 (lx hK h.2)
 ·exact h2
theorem cH {m : V -> Nat} {c n K J : Nat} {l : List am} {s u : List UInt8} {a b : O} (hK : K ≠ 6) (hJ : J ≠ 6) (h1 : cM l.tail + 16 <= cM l -> Wt a m c n) (h2 : Wt b m c n) : Wt (if (ck K s l || ck J u l) = true then a else b) m c n := by
 split
 ·rename_i h
  refine h1 ?_;rcases Bool.or_eq_true_iff.1 h with h | h
  ·rw [lx hK h]; omega
  ·rw [lx hJ h]; omega
 ·exact h2
theorem bh {m : V -> Nat} {c n : Nat} {p : Prop} [Decidable p] {a b : O} (h1 : p -> Wt a m c n) (h2 : ¬ p -> Wt b m c n) : Wt (if p then a else b) m c n := by
 split
 ·rename_i h; exact h1 h
 ·rename_i h; exact h2 h
theorem Sq818703 {P : Prop} (h : P := by
 have z843779c := trivial;exact Sq843779) : P := h
theorem Sq843779 {P : Prop} (h : P := by
 first
 |(
  guard_hyp z843779a
  first
  |(
   guard_hyp z110440d
   have h0 : eL (nx l) ≠ 0 := fun e => h (.inr (.inl e))
   have hp := i3 (l := l) (sz h0);have pt := ce l.tail;have ps : (ai (nx l).t).size = (nx l).t.length := aj _;clear h)
  |(
   guard_hyp z110440a
   simp only [hc, if_false, Bool.false_eq_true]
   (try simp only [aL, cB])
   have pm := nY (l).tail.tail;have pu := ce (l))
  |(
   simp only [hc, if_false, Bool.false_eq_true]
   (try simp only [aL, cB])))
 |(
  guard_hyp z843779c
  first
  |(
   guard_hyp z818703a
   simp only [Go.Proofs.YteljlahcdipilaaGreat.step, aL, cB];have pm := nY l.tail;have pt := ce l)
  |(
   guard_hyp z818703b
   simp only [Go.Proofs.YteljlahcdipilaaGreat.step, aL, cB];have pt := ce l)
  |(
   guard_hyp z818703c
   have hp := i3 (l := l) (by rw [h2.1]; decide);clear h h2)
  | skip)
 |(
  first
  |(
   guard_hyp z110440a
   simp only [hc, if_true]
   (try simp only [aL, cB])
   have pm := nY (l.tail).tail.tail;have pu := ce (l.tail))
  | (guard_hyp z110440d)
  |(
   simp only [hc, if_true]
   (try simp only [aL, cB])))
 repeat' (first | refine bN (ih _ _) (fun v r hv => ?_) | refine bw (by decide) (fun hp => ?_) | refine bR (fun s hp => ?_) | refine bz (fun s hp => ?_) | refine cF (by decide) (fun hp => ?_) ?_ | refine bA (by decide) (fun hp => ?_) ?_ | refine bS (by decide) (fun h hp => ?_) ?_ | refine cH (by decide) (by decide) (fun hp => ?_) ?_ | exact bH | refine bh (fun h => ?_) (fun h => ?_))
 all_goals (first | (refine cE ?_; (try have pn := cG v.ex); (try simp only [wG, bX, ca, V.ex, V.exs, V.strs, V.node, V.edge, V.path, V.paths, V.item, V.items, V.sorts, V.sets, V.clause, V.clauses, aW, aY, aX, aM, bT, ao, av, ay, aw, an, dO, br, bs, bt, bB, bE, bv, aT, aC, List.map_append, List.map_cons, List.map_nil, List.sum_append, List.sum_cons, List.sum_nil, List.length_cons, List.length_nil, aj] at *); omega) | (exact fun v9 r9 e9 => by have h2 := ih _ _ v9 r9 e9; (try simp only [wG, bX, ca, V.ex, V.exs, V.strs, V.node, V.edge, V.path, V.paths, V.item, V.items, V.sorts, V.sets, V.clause, V.clauses, aW, aY, aX, aM, bT, ao, av, ay, aw, an, dO, br, bs, bt, bB, bE, bv, aT, aC, List.map_append, List.map_cons, List.map_nil, List.sum_append, List.sum_cons, List.sum_nil, List.length_cons, List.length_nil, aj] at *); omega))) : P := h
theorem AW {rec : G -> List am -> O} (ih : ∀ g l, Wt (rec g l) (wG g) (ca g) (bX g + cM l)) (least : Nat) (l : List am) : Wt (Go.Proofs.YteljlahcdipilaaGreat.step rec (.expr least) l) (wG (.expr least)) (ca (.expr least)) (bX (.expr least) + cM l) := by
 have z818703b := trivial;exact Sq818703
theorem zn {rec : G -> List am -> O} (ih : ∀ g l, Wt (rec g l) (wG g) (ca g) (bX g + cM l)) (least : Nat) (l : List am) : Wt (Go.Proofs.YteljlahcdipilaaGreat.step rec (.unary least) l) (wG (.unary least)) (ca (.unary least)) (bX (.unary least) + cM l) := by
 have z818703b := trivial;exact Sq818703
theorem AX {rec : G -> List am -> O} (ih : ∀ g l, Wt (rec g l) (wG g) (ca g) (bX g + cM l)) (t : Ex) (l : List am) : Wt (Go.Proofs.YteljlahcdipilaaGreat.step rec (.post t) l) (wG (.post t)) (ca (.post t)) (bX (.post t) + cM l) := by
 have z818703b := trivial;exact Sq818703
theorem AY {rec : G -> List am -> O} (ih : ∀ g l, Wt (rec g l) (wG g) (ca g) (bX g + cM l)) (l : List am) : Wt (Go.Proofs.YteljlahcdipilaaGreat.step rec (.atom ) l) (wG (.atom )) (ca (.atom )) (bX (.atom ) + cM l) := by
 have z818703b := trivial;exact Sq818703
theorem AZ {rec : G -> List am -> O} (ih : ∀ g l, Wt (rec g l) (wG g) (ca g) (bX g + cM l)) (stop : List UInt8) (l : List am) : Wt (Go.Proofs.YteljlahcdipilaaGreat.step rec (.list stop) l) (wG (.list stop)) (ca (.list stop)) (bX (.list stop) + cM l) := by
 have z818703b := trivial;exact Sq818703
theorem zo {rec : G -> List am -> O} (ih : ∀ g l, Wt (rec g l) (wG g) (ca g) (bX g + cM l)) (stop : List UInt8) (acc : List Ex) (l : List am) : Wt (Go.Proofs.YteljlahcdipilaaGreat.step rec (.items stop acc) l) (wG (.items stop acc)) (ca (.items stop acc)) (bX (.items stop acc) + cM l) := by
 have z818703b := trivial;exact Sq818703
theorem zq {rec : G -> List am -> O} (ih : ∀ g l, Wt (rec g l) (wG g) (ca g) (bX g + cM l)) (l : List am) : Wt (Go.Proofs.YteljlahcdipilaaGreat.step rec (.props ) l) (wG (.props )) (ca (.props )) (bX (.props ) + cM l) := by
 have z818703b := trivial;exact Sq818703
theorem zt {rec : G -> List am -> O} (ih : ∀ g l, Wt (rec g l) (wG g) (ca g) (bX g + cM l)) (ks : List ByteArray) (vs : List Ex) (l : List am) : Wt (Go.Proofs.YteljlahcdipilaaGreat.step rec (.pairs ks vs) l) (wG (.pairs ks vs)) (ca (.pairs ks vs)) (bX (.pairs ks vs) + cM l) := by
 have z818703b := trivial;exact Sq818703
theorem xC {rec : G -> List am -> O} (ih : ∀ g l, Wt (rec g l) (wG g) (ca g) (bX g + cM l)) (acc : List ByteArray) (l : List am) : Wt (Go.Proofs.YteljlahcdipilaaGreat.step rec (.labels acc) l) (wG (.labels acc)) (ca (.labels acc)) (bX (.labels acc) + cM l) := by
 have z818703b := trivial;exact Sq818703
theorem A7 {rec : G -> List am -> O} (ih : ∀ g l, Wt (rec g l) (wG g) (ca g) (bX g + cM l)) (l : List am) : Wt (Go.Proofs.YteljlahcdipilaaGreat.step rec (.node ) l) (wG (.node )) (ca (.node )) (bX (.node ) + cM l) := by
 have z818703a := trivial;exact Sq818703
theorem A8 {rec : G -> List am -> O} (ih : ∀ g l, Wt (rec g l) (wG g) (ca g) (bX g + cM l)) (l : List am) : Wt (Go.Proofs.YteljlahcdipilaaGreat.step rec (.path ) l) (wG (.path )) (ca (.path )) (bX (.path ) + cM l) := by
 have z818703b := trivial;exact Sq818703
theorem A9 {rec : G -> List am -> O} (ih : ∀ g l, Wt (rec g l) (wG g) (ca g) (bX g + cM l)) (ns : List oc) (es : List od) (l : List am) : Wt (Go.Proofs.YteljlahcdipilaaGreat.step rec (.segs ns es) l) (wG (.segs ns es)) (ca (.segs ns es)) (bX (.segs ns es) + cM l) := by
 have z818703b := trivial;exact Sq818703
theorem zu {rec : G -> List am -> O} (ih : ∀ g l, Wt (rec g l) (wG g) (ca g) (bX g + cM l)) (l : List am) : Wt (Go.Proofs.YteljlahcdipilaaGreat.step rec (.paths ) l) (wG (.paths )) (ca (.paths )) (bX (.paths ) + cM l) := by
 have z818703b := trivial;exact Sq818703
theorem Ba {rec : G -> List am -> O} (ih : ∀ g l, Wt (rec g l) (wG g) (ca g) (bX g + cM l)) (acc : List lL) (l : List am) : Wt (Go.Proofs.YteljlahcdipilaaGreat.step rec (.more acc) l) (wG (.more acc)) (ca (.more acc)) (bX (.more acc) + cM l) := by
 have z818703b := trivial;exact Sq818703
theorem zv {rec : G -> List am -> O} (ih : ∀ g l, Wt (rec g l) (wG g) (ca g) (bX g + cM l)) (w : List UInt8) (l : List am) : Wt (Go.Proofs.YteljlahcdipilaaGreat.step rec (.maybe w) l) (wG (.maybe w)) (ca (.maybe w)) (bX (.maybe w) + cM l) := by
 have z818703b := trivial;exact Sq818703
theorem Bb {rec : G -> List am -> O} (ih : ∀ g l, Wt (rec g l) (wG g) (ca g) (bX g + cM l)) (l : List am) : Wt (Go.Proofs.YteljlahcdipilaaGreat.step rec (.item ) l) (wG (.item )) (ca (.item )) (bX (.item ) + cM l) := by
 have z818703b := trivial;exact Sq818703
theorem BU {rec : G -> List am -> O} (ih : ∀ g l, Wt (rec g l) (wG g) (ca g) (bX g + cM l)) (acc : List mj) (l : List am) : Wt (Go.Proofs.YteljlahcdipilaaGreat.step rec (.its acc) l) (wG (.its acc)) (ca (.its acc)) (bX (.its acc) + cM l) := by
 have z818703b := trivial;exact Sq818703
theorem zw {rec : G -> List am -> O} (ih : ∀ g l, Wt (rec g l) (wG g) (ca g) (bX g + cM l)) (l : List am) : Wt (Go.Proofs.YteljlahcdipilaaGreat.step rec (.sorts ) l) (wG (.sorts )) (ca (.sorts )) (bX (.sorts ) + cM l) := by
 have z818703b := trivial;exact Sq818703
theorem Bc {rec : G -> List am -> O} (ih : ∀ g l, Wt (rec g l) (wG g) (ca g) (bX g + cM l)) (acc : List ByteArray) (l : List am) : Wt (Go.Proofs.YteljlahcdipilaaGreat.step rec (.vars acc) l) (wG (.vars acc)) (ca (.vars acc)) (bX (.vars acc) + cM l) := by
 have z818703b := trivial;exact Sq818703
theorem zx {rec : G -> List am -> O} (ih : ∀ g l, Wt (rec g l) (wG g) (ca g) (bX g + cM l)) (d : Int) (a : ByteArray) (b : ByteArray) (l : List am) : Wt (Go.Proofs.YteljlahcdipilaaGreat.step rec (.edgeP d a b) l) (wG (.edgeP d a b)) (ca (.edgeP d a b)) (bX (.edgeP d a b) + cM l) := by
 have z818703b := trivial;exact Sq818703
theorem zy {rec : G -> List am -> O} (ih : ∀ g l, Wt (rec g l) (wG g) (ca g) (bX g + cM l)) (d : Int) (a : ByteArray) (b : ByteArray) (ks : List ByteArray) (vs : List Ex) (l : List am) : Wt (Go.Proofs.YteljlahcdipilaaGreat.step rec (.edgeE d a b ks vs) l) (wG (.edgeE d a b ks vs)) (ca (.edgeE d a b ks vs)) (bX (.edgeE d a b ks vs) + cM l) := by
 have z818703b := trivial;exact Sq818703
theorem Sq110440 {P : Prop} (h : P := by
 first
 |(
  guard_hyp z110440c
  simp only [Go.Proofs.YteljlahcdipilaaGreat.step];refine bN (ih _ _) (fun v r hv => ?_);have pt := ce r
  by_cases hc : (cB tS r || cB jU r) = true)
 |(
  guard_hyp z110440d
  simp only [Go.Proofs.YteljlahcdipilaaGreat.step, aL, cB];refine bh (fun h => ?_) (fun h => ?_))
 |(
  guard_hyp z110440a
  simp only [Go.Proofs.YteljlahcdipilaaGreat.step];have pt := ce l
  by_cases hc : aL 60 l = true)
 |(
  simp only [Go.Proofs.YteljlahcdipilaaGreat.step];have pt := ce l
  by_cases hc : cB im l = true)
 ·exact Sq843779
 ·have z843779a := trivial;exact Sq843779) : P := h
theorem Bd {rec : G -> List am -> O} (ih : ∀ g l, Wt (rec g l) (wG g) (ca g) (bX g + cM l)) (least most : Nat) (t : Ex) (l : List am) : Wt (Go.Proofs.YteljlahcdipilaaGreat.step rec (.loop least most t) l) (wG (.loop least most t)) (ca (.loop least most t)) (bX (.loop least most t) + cM l) := by
 have z110440d := trivial;exact Sq110440
theorem Be {rec : G -> List am -> O} (ih : ∀ g l, Wt (rec g l) (wG g) (ca g) (bX g + cM l)) (l : List am) : Wt (Go.Proofs.YteljlahcdipilaaGreat.step rec (.edge) l) (wG (.edge)) (ca (.edge)) (bX (.edge) + cM l) := by
 have z110440a := trivial;exact Sq110440
theorem zz {rec : G -> List am -> O} (ih : ∀ g l, Wt (rec g l) (wG g) (ca g) (bX g + cM l)) (acc : List oe) (l : List am) : Wt (Go.Proofs.YteljlahcdipilaaGreat.step rec (.sortL acc) l) (wG (.sortL acc)) (ca (.sortL acc)) (bX (.sortL acc) + cM l) := by
 have z110440c := trivial;exact Sq110440
theorem Bf {rec : G -> List am -> O} (ih : ∀ g l, Wt (rec g l) (wG g) (ca g) (bX g + cM l)) (kind : Int) (l : List am) : Wt (Go.Proofs.YteljlahcdipilaaGreat.step rec (.rows kind) l) (wG (.rows kind)) (ca (.rows kind)) (bX (.rows kind) + cM l) := Sq110440
theorem Bg {rec : G -> List am -> O} (ih : ∀ g l, Wt (rec g l) (wG g) (ca g) (bX g + cM l)) (kind : Int) (acc : List lD) (l : List am) : Wt (Go.Proofs.YteljlahcdipilaaGreat.step rec (.setL kind acc) l) (wG (.setL kind acc)) (ca (.setL kind acc)) (bX (.setL kind acc) + cM l) := by
 have z818703b := trivial;exact Sq818703
theorem xD {rec : G -> List am -> O} (ih : ∀ g l, Wt (rec g l) (wG g) (ca g) (bX g + cM l)) (w : List UInt8) (l : List am) : Wt (Go.Proofs.YteljlahcdipilaaGreat.step rec (.clause w) l) (wG (.clause w)) (ca (.clause w)) (bX (.clause w) + cM l) := by
 have z818703b := trivial;exact Sq818703
theorem Bh {rec : G -> List am -> O} (ih : ∀ g l, Wt (rec g l) (wG g) (ca g) (bX g + cM l)) (acc : List dS) (l : List am) : Wt (Go.Proofs.YteljlahcdipilaaGreat.step rec (.stmt acc) l) (wG (.stmt acc)) (ca (.stmt acc)) (bX (.stmt acc) + cM l) := by
 simp only [Go.Proofs.YteljlahcdipilaaGreat.step, aL, cB];refine bh (fun h => ?_) (fun h => ?_)
 ·exact Sq818703
 ·refine bh (fun h2 => ?_) (fun h2 => ?_)
  ·have z818703c := trivial;exact Sq818703
  ·exact bH
theorem Bi {rec : G -> List am -> O} (ih : ∀ g l, Wt (rec g l) (wG g) (ca g) (bX g + cM l)) (g : G) (l : List am) : Wt (Go.Proofs.YteljlahcdipilaaGreat.step rec g l) (wG g) (ca g) (bX g + cM l) := by
 cases g with
 | expr n => exact AW ih n l
 | loop n m t => exact Bd ih n m t l
 | unary n => exact zn ih n l
 | post t => exact AX ih t l
 | atom => exact AY ih l
 | list s => exact AZ ih s l
 | items s a => exact zo ih s a l
 | props => exact zq ih l
 | pairs k v => exact zt ih k v l
 | labels a => exact xC ih a l
 | node => exact A7 ih l
 | edge => exact Be ih l
 | edgeP d a b => exact zx ih d a b l
 | edgeE d a b k v => exact zy ih d a b k v l
 | path => exact A8 ih l
 | segs n e => exact A9 ih n e l
 | paths => exact zu ih l
 | more a => exact Ba ih a l
 | maybe w => exact zv ih w l
 | item => exact Bb ih l
 | its a => exact BU ih a l
 | sorts => exact zw ih l
 | sortL a => exact zz ih a l
 | rows k => exact Bf ih k l
 | setL k a => exact Bg ih k a l
 | vars a => exact Bc ih a l
 | clause w => exact xD ih w l
 | stmt a => exact Bh ih a l
theorem xE : ∀ (f : Nat) (g : G) (l : List am), Wt (run f g l) (wG g) (ca g) (bX g + cM l)
  | 0, _, _ => fun _ _ e => by cases e
  | f + 1, g, l => Bi (xE f) g l
theorem sK {f : Nat} {l : List am} {v : V} {r : List am} (h : run f (.stmt []) l = some (.ok v r)) : nu ⟨v.clauses⟩ <= 1 + cM l := by
 have h2 := xE f (.stmt []) l v r h;have e1 : wG (.stmt []) v = (v.clauses.map aT).sum := rfl;have e2 : bX (.stmt []) = 0 := rfl;rw [e1, e2] at h2;show 1 + (v.clauses.map aT).sum <= _;omega
def sL (t : am) (X : List UInt8) : Prop := X ≠ [] /\ aI (nb X 0) = false /\ ∀ q, cu (X ++ 32 :: q) = .tok t X.length
def Ca (b : List UInt8) : Prop := ∃ r, b = 32 :: r /\ ∀ c ∈ b, aI c.toNat = true
def gB (l : List (List UInt8 × List UInt8)) : List UInt8 := l.flatMap fun x => x.1 ++ x.2
theorem qb (b r : List UInt8) (hb : ∀ c ∈ b, aI c.toNat = true) (hr : r = [] \/ aI (nb r 0) = false) : aG aI (b ++ r) = b.length := by
 rw [jf aI b r hb];cases r with
 | nil => rfl
 | cons c r => rw [ie r (hr.resolve_left (by simp))]; rfl
theorem mI : ∀ (l : List (am × List UInt8 × List UInt8)) (e : List UInt8) (f p : Nat) (acc : List (am × Nat)), (∀ x ∈ l, Ca x.2.1 /\ sL x.1 x.2.2) -> Ca e -> acc.length + l.length <= 4095 -> (gB (l.map Prod.snd) ++ e).length < f ->
    ∃ l' q, db f (gB (l.map Prod.snd) ++ e) p acc = .ok (acc ++ l' ++ [(⟨6, [], 0⟩, q)]) /\ l'.map Prod.fst = l.map Prod.fst
  | [], e, f, p, acc, _, he, hl, hf => by
    obtain ⟨g, rfl⟩ : ∃ g, f = g + 1 := ⟨f - 1, by omega⟩;obtain ⟨r, h1, h2⟩ := he;have hs := qb e [] h2 (.inl rfl);rw [List.append_nil] at hs;refine ⟨[], p + e.length, ?_, rfl⟩;show db (g + 1) ([] ++ e) p acc = _;rw [List.nil_append, db, hs, if_pos (by simp), if_neg (by simp at hl; omega), List.append_nil]
  | x :: l, e, f, p, acc, hx, he, hl, hf => by
    obtain ⟨g, rfl⟩ : ∃ g, f = g + 1 := ⟨f - 1, by omega⟩;obtain ⟨⟨r, hg, hb⟩, h1, h2, h3⟩ := hx x (List.mem_cons_self ..);obtain ⟨t, b, X⟩ := x;simp only at hg hb h1 h2 h3
    -- what stands behind begins with a space
    have hq : ∃ q, gB (l.map Prod.snd) ++ e = 32 :: q := by
      cases l with
      | nil => obtain ⟨r, h, -⟩ := he; exact ⟨r, h⟩
      | cons y l =>
        obtain ⟨⟨r, h, -⟩, -⟩ := hx y (List.mem_cons_of_mem _ (List.mem_cons_self ..));exact ⟨_, by rw [List.map_cons, gB, List.flatMap_cons, h]; rfl⟩
    obtain ⟨q, hq⟩ := hq;have e0 : gB (((t, b, X) :: l).map Prod.snd) ++ e = b ++ (X ++ (gB (l.map Prod.snd) ++ e)) := by simp [gB]
    have hl' : (gB (((t, b, X) :: l).map Prod.snd) ++ e).length = b.length + (X.length + (gB (l.map Prod.snd) ++ e).length) := by rw [e0]; simp
    rw [hl'] at hf;have hX : 0 < X.length := List.length_pos_iff.2 h1;have hsp : aG aI (b ++ (X ++ (gB (l.map Prod.snd) ++ e))) = b.length := qb b _ hb (.inr (by
      cases X with
      | nil => exact absurd rfl h1
      | cons c X => exact h2))
    have hn : (b ++ (X ++ (gB (l.map Prod.snd) ++ e))).drop b.length = X ++ (gB (l.map Prod.snd) ++ e) := List.drop_left;rw [e0, db, hsp, hn, if_neg (by simp [h1]), show cu (X ++ (gB (l.map Prod.snd) ++ e)) = .tok t X.length from by rw [hq]; exact h3 q];dsimp only;rw [if_neg (by simp at hl; omega), List.drop_left];obtain ⟨l', k, hk, hm⟩ := mI l e g (p + b.length + X.length) (acc ++ [(t, p + b.length)]) (fun y hy => hx y (List.mem_cons_of_mem _ hy)) he (by simp at hl ⊢; omega) (by omega);exact ⟨(t, p + b.length) :: l', k, by rw [hk]; simp, by simp [hm]⟩
def xZ (c : UInt8) : UInt8 := if 65 <= c.toNat /\ c.toNat <= 90 then c + 32 else c
def cr (l : List UInt8) : List UInt8 := l.map xZ
theorem qc : ∀ W ∈ iN, ew (cr W) = true /\ cr W ≠ [] /\ (cr W).length <= 64 /\ bU (cr W) = W /\ (∀ c ∈ cr W, bf c.toNat = true) /\ aV (nb (cr W) 0) = true := by decide +kernel
theorem qe (W : List UInt8) (h : W ∈ iN) : sL ⟨2, W, 0⟩ (cr W) := by
 obtain ⟨f1, f2, f3, f4, f5, f6⟩ := qc W h;refine ⟨f2, iS (fH _ _) f6, fun q => ?_⟩;have hs : aG bf (cr W ++ 32 :: q) = (cr W).length := gj _ q f5 (by decide);have ht : (cr W ++ 32 :: q).take (cr W).length = cr W := List.take_left;have hn : nb (cr W ++ 32 :: q) 0 = nb (cr W) 0 := by
  cases hW : cr W with
  | nil => exact absurd hW f2
  | cons c t => rfl
 have := jw (r := cr W ++ 32 :: q) (by rw [hn]; exact f6) (by rw [hs]; omega) (by rw [hs, ht]; exact f1);rwa [hs, ht, f4] at this
def jL (f : UInt8 -> UInt8) (l : List UInt8) (i : Nat) : List UInt8 := (l.take i).map f ++ l.drop i
theorem qf (f : UInt8 -> UInt8) (l : List UInt8) (i : Nat) : (jL f l i).length = l.length := by unfold jL; simp; omega
theorem sM {f : UInt8 -> UInt8} {l : List UInt8} {i : Nat} (h : i < l.length) : (jL f l i)[i]? = some l[i] := by
 unfold jL;rw [List.getElem?_append_right (by simp; omega)];simp only [List.length_map, List.length_take];rw [Nat.min_eq_left (by omega), Nat.sub_self, List.getElem?_drop, Nat.add_zero, List.getElem?_eq_getElem h]
theorem mJ {f : UInt8 -> UInt8} {l : List UInt8} {i : Nat} (h : i < l.length) : jL f l (i + 1) = (jL f l i).set i (f l[i]) := by
 unfold jL;rw [List.take_succ_eq_append_getElem h, List.map_append, List.append_assoc, List.set_append_right _ _ (by simp; omega)];simp only [List.length_map, List.length_take];rw [Nat.min_eq_left (by omega), Nat.sub_self, List.drop_eq_getElem_cons h];rfl
theorem uy {f : UInt8 -> UInt8} {l : List UInt8} {i : Nat} (h : i < l.length) (hb : f l[i] = l[i]) : jL f l (i + 1) = jL f l i := by
 rw [mJ h, hb];apply List.ext_getElem?;intro j
 by_cases hj : i = j
 ·subst hj;rw [List.getElem?_set_self (by rw [qf]; exact h), sM h]
 ·rw [List.getElem?_set_ne hj]
theorem zP {c : UInt8} (h1 : 65 <= c.toNat) (h2 : c.toNat <= 90) : ((xZ c).toNat : Int) = (c.toNat : Int) + 32 := by
 unfold xZ;rw [if_pos ⟨h1, h2⟩];simp;omega
theorem Bk {c : UInt8} (h : ¬ (65 <= c.toNat /\ c.toNat <= 90)) : xZ c = c := by unfold xZ; rw [if_neg h]
theorem uz (s : ByteArray) (w : World) (hs : s.size <= 1099511627776) :
    Calls Tryz.prog 10 #[.string s] w fun e w' => e = .returned (.string (ai (cr s.data.toList))) /\ Below w.heap.size w w' := by
 have HLN : Hid (s.data.toList.length = s.size) := aa (by simp);have hcv := run_bytes_of_string (P := Tryz.prog) w 9 75 5 s Tryz.underlying9 Tryz.underlying75 Tryz.underlying5;have HROW := aa (mZ.of_string w s (grownCap w s.size 0 5) 5);have hb0 : Below w.heap.size w (w.drew.alloc (.cells (bytesRow s (grownCap w s.size 0 5)) 5 ((bytesRow s (grownCap w s.size 0 5)).size, (bytesRow s (grownCap w s.size 0 5)).size + 1))) := ((Below.refl _ _).drew).alloc (Nat.le_refl _) _;have HB0 := aa hb0;clear hb0;generalize grownCap w s.size 0 5 = cap at *;generalize (w.drew.alloc (.cells (bytesRow s cap) 5 ((bytesRow s cap).size, (bytesRow s cap).size + 1))) = W1 at *;go_enter Tryz.func10, Tryz.ntmps10;go_wp2_with fail
 go_loopw [4] (fun k wr => ∃ (i : Nat), k = .int .i64 i /\ mZ wr w.heap.size (jL xZ s.data.toList i) /\ i <= s.size /\ Below w.heap.size w wr) (fun k _ => s.size - (intOf k).toNat)
 case atStart => exact ⟨0, rfl, by unfold jL; simpa using HROW.out, Nat.zero_le _, HB0.out⟩
 case round =>
  obtain ⟨i, rfl, hrow, hil, hbr⟩ := hrel;have HBR := aa hbr;have HR := aa hrow;clear hbr hrow hcv
  by_cases hp : i < s.size
  ·have z357469a := trivial;exact Sq357469
  ·have hp' : ¬ (i : Int) < s.size := by omega
   have HT : Hid (jL xZ s.data.toList i = cr s.data.toList) := aa (by unfold jL cr; rw [List.take_of_length_le (by rw [HLN.out]; omega), List.drop_of_length_le (by rw [HLN.out]; omega), List.append_nil]);have hsz : s.size = (cr s.data.toList).length := by unfold cr; rw [List.length_map, HLN.out]
   have HSZ := aa hsz;have hback := run_convert_bytes_back (P := Tryz.prog) wr 75 9 5 ⟨w.heap.size, 0, none⟩ cap (cr s.data.toList) Tryz.underlying75 Tryz.underlying5 Tryz.underlying9 (fun j hj => by
    have h := HR.out;rw [HT.out] at h;rw [fu, Nat.zero_add];exact (h j _ (List.getElem?_eq_getElem hj)).1)
   rw [<- HSZ.out] at hback;clear hsz;go_wp2_with fail;go_ret;exact ⟨rfl, HBR.out⟩
end Go.Proofs.YteljlahcdipilaaGreat
namespace Go.Proofs.YteljlahcdipilaaGreat
open Go.RowKit
def jM (n : Nat) : List UInt8 := ([32, 10, 9, 13] : List UInt8).take n ++ [32]
def fO (t : am) (n : Nat) : List UInt8 := if t.k = 2 /\ 1 < n then cr (dH t) else dH t
def dT (m : Nat -> Nat) : Nat -> List (am × Nat) -> List (am × List UInt8 × List UInt8)
  | _, [] => []
  | i, x :: l => (x.1, jM (m i), fO x.1 (m i)) :: dT m (i + 1) l
def fG (m : Nat -> Nat) (L : List (am × Nat)) (i : Nat) : List UInt8 := gB ((dT m 0 (L.take i)).map Prod.snd)
theorem qg : ∀ n, Ca (jM n)
  | 0 => ⟨[], rfl, by decide⟩
  | 1 => ⟨[32], rfl, by decide⟩
  | 2 => ⟨[10, 32], rfl, by decide⟩
  | 3 => ⟨[10, 9, 32], rfl, by decide⟩
  | n + 4 => ⟨[10, 9, 13, 32], by unfold jM; rw [List.take_of_length_le (by simp)]; rfl, by unfold jM; rw [List.take_of_length_le (by simp)]; decide⟩
theorem i4 (m : Nat -> Nat) : ∀ (a b : List (am × Nat)) (i : Nat), dT m i (a ++ b) = dT m i a ++ dT m (i + a.length) b
  | [], b, i => rfl
  | x :: a, b, i => by
    show _ :: dT m (i + 1) (a ++ b) = _ :: (dT m (i + 1) a ++ _);rw [i4 m a b (i + 1), List.length_cons, show i + 1 + a.length = i + (a.length + 1) from by omega]
theorem i5 (m : Nat -> Nat) : ∀ (a : List (am × Nat)) (i : Nat), (dT m i a).map Prod.fst = a.map Prod.fst
  | [], i => rfl
  | x :: a, i => by show x.1 :: _ = x.1 :: _; rw [i5 m a (i + 1)]
theorem lz (m : Nat -> Nat) : ∀ (a : List (am × Nat)) (i : Nat) z, z ∈ dT m i a -> ∃ x ∈ a, ∃ n, z = (x.1, jM n, fO x.1 n)
  | [], i, z, h => by cases h
  | x :: a, i, z, h => by
    rcases List.mem_cons.1 h with rfl | h
    · exact ⟨x, List.mem_cons_self .., m i, rfl⟩
    · obtain ⟨y, hy, n, e⟩ := lz m a (i + 1) z h
      exact ⟨y, List.mem_cons_of_mem _ hy, n, e⟩
theorem jW (m : Nat -> Nat) {L : List (am × Nat)} {i : Nat} {x : am × Nat} (h : L[i]? = some x) : fG m L (i + 1) = fG m L i ++ (jM (m i) ++ fO x.1 (m i)) := by
 obtain ⟨hi, hx⟩ := List.getElem?_eq_some_iff.1 h;unfold fG;rw [List.take_succ_eq_append_getElem hi, hx, i4, List.map_append, List.length_take, Nat.min_eq_left (by omega), Nat.zero_add];simp [gB, dT]
theorem rG {s : List UInt8} {t : am} {n k : Nat} (hs : s ≠ []) (h : cu s = .tok t k) : sL t (fO t n) := by
 unfold fO
 split
 ·rename_i hk
  rcases fx h with ⟨e, _, _, _, ht, hw, hn⟩ | ⟨e, _⟩ | ⟨e, _⟩ | ⟨e, _⟩ | ⟨e, _⟩
  ·obtain ⟨tk, tt, tn⟩ := t;simp only at e ht hn hk;subst e hn;have hm : tt ∈ iN := by
    rw [ht];unfold ew at hw;exact of_decide_eq_true hw
   have : dH ⟨2, tt, 0⟩ = tt := rfl;rw [this];exact qe tt hm
  all_goals omega
 ·exact oX hs h
theorem qh (m : Nat -> Nat) {s : List UInt8} {L : List (am × Nat)} (h : cv s = .ok L) (hl : (fG m L L.length).length <= 16384) : ∃ L2, cv (fG m L L.length) = .ok L2 /\ aA L2 0 = aA L 0 := by
 obtain ⟨_, er, q, rfl, h2, h3⟩ := gl h;have hT : fG m (er ++ [((⟨6, [], 0⟩ : am), q)]) (er ++ [((⟨6, [], 0⟩ : am), q)]).length = gB ((dT m 0 er).map Prod.snd) ++ jM (m er.length) := by
  unfold fG;rw [List.take_length, i4, List.map_append, Nat.zero_add];simp [gB, dT, fO, dH, jc]
 rw [hT] at hl ⊢;have hP : ∀ x ∈ dT m 0 er, Ca x.2.1 /\ sL x.1 x.2.2 := fun x hx => by
  obtain ⟨y, hy, n, rfl⟩ := lz m er 0 x hx;obtain ⟨r', k, g1, _, g2⟩ := h2 y hy;exact ⟨qg n, rG g1 g2⟩
 obtain ⟨l', q', he, hm⟩ := mI (dT m 0 er) (jM (m er.length)) ((gB ((dT m 0 er).map Prod.snd) ++ jM (m er.length)).length + 1) 0 [] hP (qg _) (by
     have e : (dT m 0 er).length = er.length := by have := congrArg List.length (i5 m er 0); simpa using this
     rw [List.length_nil, e]; omega) (by omega)
 refine ⟨l' ++ [(⟨6, [], 0⟩, q')], ?_, ?_⟩
 ·unfold cv;rw [if_neg (by omega)];simpa using he
 ·unfold aA;rw [List.drop_zero, List.drop_zero, List.map_append, List.map_append, hm, i5];rfl
theorem lA (l : List UInt8) : (cr l).length = l.length := by unfold cr; simp
theorem uA {t : am} (n : Nat) (h : (dH t).length <= 65538) : (fO t n).length <= 65538 := by
 unfold fO
 split
 ·rw [lA]; exact h
 ·exact h
theorem xS (n : Nat) : (jM n).length <= 5 := by unfold jM; simp; omega
theorem lB {s : List UInt8} {L : List (am × Nat)} (h : cv s = .ok L) (x : am × Nat) (hm : x ∈ L) : (dH x.1).length <= 65538 := by
 obtain ⟨hs, er, q, rfl, g2, _⟩ := gl h;rcases List.mem_append.1 hm with hm | hm
 ·obtain ⟨r', k, g3, g4, g5⟩ := g2 _ hm;exact (jy g3 g5 (by omega)).2.2
 ·obtain rfl := List.mem_singleton.1 hm;exact Nat.zero_le _
theorem rH (m : Nat -> Nat) {s : List UInt8} {L : List (am × Nat)} (h : cv s = .ok L) : ∀ i, i <= L.length -> (fG m L i).length <= i * 65543 := by
 intro i
 induction i with
 | zero => intro _; exact Nat.le_of_eq rfl
 | succ i ih =>
  intro hi;have hx := List.getElem?_eq_getElem (l := L) (i := i) (by omega);have h1 := ih (by omega);have h2 := xS (m i);have h3 : (dH L[i].1).length <= 65538 := lB h _ (List.mem_of_getElem? hx);have h4 := uA (m i) h3;rw [jW m hx, List.length_append, List.length_append];omega
theorem xT {s : List UInt8} {L : List (am × Nat)} (h : cv s = .ok L) (x : am × Nat) (hm : x ∈ L) : dP x.1.n /\ x.1.t.length <= 16384 := by
 obtain ⟨hs, er, q, rfl, g2, _⟩ := gl h;rcases List.mem_append.1 hm with hm | hm
 ·obtain ⟨r', k, g3, g4, g5⟩ := g2 _ hm;have := jy g3 g5 (by omega);exact ⟨this.1, this.2.1⟩
 ·obtain rfl := List.mem_singleton.1 hm;exact ⟨(by show dP 0; unfold dP; omega), Nat.zero_le _⟩
end Go.Proofs.YteljlahcdipilaaGreat

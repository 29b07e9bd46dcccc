/- Parts X56 of this seat (pruned, scripts that are alike kept once as default arguments: q1, q2, ..). Conditions: each says its own. -/
import Derived.Test.YteljlahcdipilaaGreatG21
set_option linter.unusedSimpArgs false
set_option linter.unusedVariables false
set_option maxRecDepth 1000000
set_option maxHeartbeats 64000000
namespace Go.Proofs.YteljlahcdipilaaGreat
open Go.RowKit Go.Shelf
inductive V where
  | x (t : Ex)
  | xs (l : List Ex)
  | kv (ks : List ByteArray) (vs : List Ex)
  | ss (l : List ByteArray)
  | np (n : oc)
  | ep (e : od)
  | pt (p : lL)
  | ps (l : List lL)
  | it (i : mj)
  | il (l : List mj)
  | ol (l : List oe)
  | zl (l : List lD)
  | cl (c : dS)
  | cs (l : List dS)
def V.ex : V -> Ex | .x t => t | _ => cJ
def V.exs : V -> List Ex | .xs l => l | .kv _ vs => vs | _ => []
def V.strs : V -> List ByteArray | .ss l => l | .kv ks _ => ks | _ => []
def V.node : V -> oc | .np n => n | _ => ⟨⟨#[]⟩, [], [], []⟩
def V.edge : V -> od | .ep n => n | _ => ⟨⟨#[]⟩, ⟨#[]⟩, 0, [], []⟩
def V.path : V -> lL | .pt n => n | _ => ⟨[], []⟩
def V.paths : V -> List lL | .ps n => n | _ => []
def V.item : V -> mj | .it n => n | _ => ⟨cJ, ⟨#[]⟩⟩
def V.items : V -> List mj | .il n => n | _ => []
def V.sorts : V -> List oe | .ol n => n | _ => []
def V.sets : V -> List lD | .zl n => n | _ => []
def V.clause : V -> dS | .cl n => n | _ => aC 0
def V.clauses : V -> List dS | .cs n => n | _ => []
inductive G where
  | expr (least : Nat)
  | loop (least most : Nat) (left : Ex)
  | unary (least : Nat)
  | post (x : Ex)
  | atom
  | list (stop : List UInt8)
  | items (stop : List UInt8) (acc : List Ex)
  | props
  | pairs (ks : List ByteArray) (vs : List Ex)
  | labels (acc : List ByteArray)
  | node
  | edge
  | edgeP (d : Int) (var ty : ByteArray)
  | edgeE (d : Int) (var ty : ByteArray) (ks : List ByteArray) (vs : List Ex)
  | path
  | segs (ns : List oc) (es : List od)
  | paths
  | more (acc : List lL)
  | maybe (w : List UInt8)
  | item
  | its (acc : List mj)
  | sorts
  | sortL (acc : List oe)
  | rows (kind : Int)
  | setL (kind : Int) (acc : List lD)
  | vars (acc : List ByteArray)
  | clause (w : List UInt8)
  | stmt (acc : List dS)
inductive Pr where
  | ok (v : V) (r : List am)
  | bad (r : List am)
abbrev O := Option Pr
def bnd (o : O) (k : V -> List am -> O) : O := match o with
  | none => none
  | some (.bad r) => some (.bad r)
  | some (.ok v r) => k v r
def dX (v : V) (r : List am) : O := some (.ok v r)
def nx (l : List am) : am := l.headD ⟨6, [], 0⟩
def ck (k : Nat) (s : List UInt8) (l : List am) : Bool := decide ((nx l).k = k) && decide ((nx l).t = s)
def aL (c : UInt8) (l : List am) : Bool := ck 5 [c] l
def cB (s : List UInt8) (l : List am) : Bool := ck 2 s l
def must (b : Bool) (l : List am) (k : List am -> O) : O := if b = true then k l.tail else some (.bad l)
def fB (l : List am) (k : ByteArray -> List am -> O) : O :=
  if (nx l).k = 1 \/ ((nx l).k = 4 /\ (nx l).t ≠ [] /\ (nx l).t.length <= 64) then k (ai (nx l).t) l.tail else some (.bad l)
def dY (l : List am) (k : ByteArray -> List am -> O) : O := if (nx l).k = 1 then k (ai (nx l).t) l.tail else some (.bad l)
abbrev fm : List UInt8 := [78, 79, 84]
abbrev eD : List UInt8 := [78, 85, 76, 76]
abbrev pD : List UInt8 := [84, 82, 85, 69]
abbrev wk : List UInt8 := [70, 65, 76, 83, 69]
abbrev BJ : List UInt8 := [73, 83]
abbrev Bo : List UInt8 := [65, 83]
abbrev wl : List UInt8 := [99, 111, 117, 110, 116]
abbrev nL : List UInt8 := [87, 72, 69, 82, 69]
abbrev wm : List UInt8 := [79, 82, 68, 69, 82]
abbrev Ct : List UInt8 := [66, 89]
abbrev tS : List UInt8 := [65, 83, 67]
abbrev jU : List UInt8 := [68, 69, 83, 67]
abbrev wn : List UInt8 := [83, 75, 73, 80]
abbrev qY : List UInt8 := [76, 73, 77, 73, 84]
abbrev im : List UInt8 := [68, 73, 83, 84, 73, 78, 67, 84]
abbrev ek : List UInt8 := [77, 65, 84, 67, 72]
abbrev dn : List UInt8 := [85, 78, 87, 73, 78, 68]
abbrev fC : List UInt8 := [87, 73, 84, 72]
abbrev dp : List UInt8 := [82, 69, 84, 85, 82, 78]
abbrev dq : List UInt8 := [67, 82, 69, 65, 84, 69]
abbrev em : List UInt8 := [77, 69, 82, 71, 69]
abbrev iX : List UInt8 := [83, 69, 84]
abbrev dr : List UInt8 := [82, 69, 77, 79, 86, 69]
abbrev dc : List UInt8 := [68, 69, 76, 69, 84, 69]
abbrev dA : List UInt8 := [68, 69, 84, 65, 67, 72]
def gU : List (List UInt8) := [ek, dn, fC, dp, dq, em, iX, dr, dc, dA]
def eL (t : am) : Nat := if t.k = 5 \/ t.k = 2 then (if t.t = BJ then 5 else (eQ (ai t.t)).toNat) else 0
def mE (op : Int) (nm : ByteArray) (az : List Ex) : Ex := .mk op nm cQ [] az
def mV (v : Vt) : Ex := .mk 1 ⟨#[]⟩ v [] []
def mx (l : List dS) : Int := match l.getLast? with | some c => c.kind | none => 0
def fV (l : List am) : ByteArray × List am := if (nx l).k = 1 then (ai (nx l).t, l.tail) else (⟨#[]⟩, l)
def step (rec : G -> List am -> O) : G -> List am -> O
  | .expr least, l => bnd (rec (.unary least) l) fun v r => rec (.loop least (if least <= 4 /\ cB fm l = true then 3 else 9) v.ex) r
  | .loop least most left, l =>
    if eL (nx l) < least \/ eL (nx l) = 0 \/ most < eL (nx l) then dX (.x left) l
    else if (nx l).t = BJ then
      (if cB fm l.tail = true then must (cB eD l.tail.tail) l.tail.tail (rec (.loop least (if eL (nx l) = 5 then 4 else eL (nx l)) (mE 12 ⟨#[]⟩ [left])))
       else must (cB eD l.tail) l.tail (rec (.loop least (if eL (nx l) = 5 then 4 else eL (nx l)) (mE 11 ⟨#[]⟩ [left]))))
    else bnd (rec (.expr (eL (nx l) + 1)) l.tail) fun v r => rec (.loop least (if eL (nx l) = 5 then 4 else eL (nx l)) (mE 10 (ai (nx l).t) [left, v.ex])) r
  | .unary least, l =>
    if least <= 4 /\ cB fm l = true then bnd (rec (.expr 4) l.tail) fun v r => dX (.x (mE 9 ⟨#[]⟩ [v.ex])) r
    else if aL 45 l = true then bnd (rec (.unary 8) l.tail) fun v r => dX (.x (mE 8 ⟨#[]⟩ [v.ex])) r
    else bnd (rec .atom l) fun v r => rec (.post v.ex) r
  | .post x, l =>
    if aL 46 l = true then fB l.tail fun k r => rec (.post (mE 4 k [x])) r
    else if aL 91 l = true then bnd (rec (.expr 1) l.tail) fun v r => must (aL 93 r) r (rec (.post (mE 7 ⟨#[]⟩ [x, v.ex])))
    else if Bn x = 2 /\ aL 58 l = true then fB l.tail fun k r => rec (.post (mE 15 k [x])) r
    else dX (.x x) l
  | .atom, l =>
    if (nx l).k = 3 then dX (.x (mV (.mk 2 false (nx l).n ⟨#[]⟩ [] []))) l.tail
    else if (nx l).k = 4 then dX (.x (mV (.mk 3 false 0 (ai (nx l).t) [] []))) l.tail
    else if (nx l).k = 1 then
      (if aL 40 l.tail = true then
        (if eR (ai (nx l).t) = true then
          (if (nx l).t = wl /\ aL 42 l.tail.tail = true then must (aL 41 l.tail.tail.tail) l.tail.tail.tail fun r => dX (.x (mE 14 (ai (nx l).t) [])) r
           else bnd (rec (.expr 1) l.tail.tail) fun v r => must (aL 41 r) r fun r2 => dX (.x (mE 14 (ai (nx l).t) [v.ex])) r2)
         else bnd (rec (.list [41]) l.tail.tail) fun v r => dX (.x (mE 13 (ai (nx l).t) v.exs)) r)
       else dX (.x (mE 2 (ai (nx l).t) [])) l.tail)
    else if cB eD l = true then dX (.x (mV cQ)) l.tail
    else if (cB pD l || cB wk l) = true then dX (.x (mV (.mk 1 (decide ((nx l).t = pD)) 0 ⟨#[]⟩ [] []))) l.tail
    else if aL 36 l = true then dY l.tail fun k r => dX (.x (mE 3 k [])) r
    else if aL 40 l = true then bnd (rec (.expr 1) l.tail) fun v r => must (aL 41 r) r fun r2 => dX (.x v.ex) r2
    else if aL 91 l = true then bnd (rec (.list [93]) l.tail) fun v r => dX (.x (mE 5 ⟨#[]⟩ v.exs)) r
    else if aL 123 l = true then bnd (rec .props l) fun v r => dX (.x (.mk 6 ⟨#[]⟩ cQ v.strs v.exs)) r
    else some (.bad l)
  | .list stop, l => if ck 5 stop l = true then dX (.xs []) l.tail else rec (.items stop []) l
  | .items stop acc, l => bnd (rec (.expr 1) l) fun v r => if aL 44 r = true then rec (.items stop (acc ++ [v.ex])) r.tail else must (ck 5 stop r) r fun r2 => dX (.xs (acc ++ [v.ex])) r2
  | .props, l => must (aL 123 l) l fun l1 => if aL 125 l1 = true then dX (.kv [] []) l1.tail else rec (.pairs [] []) l1
  | .pairs ks vs, l => fB l fun k r => must (aL 58 r) r fun r1 => bnd (rec (.expr 1) r1) fun v r2 =>
      if aL 44 r2 = true then rec (.pairs (ks ++ [k]) (vs ++ [v.ex])) r2.tail else must (aL 125 r2) r2 fun r3 => dX (.kv (ks ++ [k]) (vs ++ [v.ex])) r3
  | .labels acc, l => if aL 58 l = true then fB l.tail fun k r => rec (.labels (acc ++ [k])) r else dX (.ss acc) l
  | .node, l => must (aL 40 l) l fun l1 => bnd (rec (.labels []) (fV l1).2) fun v r =>
      if aL 123 r = true then bnd (rec .props r) fun p r2 => must (aL 41 r2) r2 fun r3 => dX (.np ⟨(fV l1).1, v.strs, p.strs, p.exs⟩) r3
      else must (aL 41 r) r fun r3 => dX (.np ⟨(fV l1).1, v.strs, [], []⟩) r3
  | .edge, l =>
    must (aL 45 (if aL 60 l = true then l.tail else l)) (if aL 60 l = true then l.tail else l) fun l2 =>
      if aL 91 l2 = true then
        (if aL 58 (fV l2.tail).2 = true then fB (fV l2.tail).2.tail fun k r => rec (.edgeP (if aL 60 l = true then 1 else 2) (fV l2.tail).1 k) r
         else rec (.edgeP (if aL 60 l = true then 1 else 2) (fV l2.tail).1 ⟨#[]⟩) (fV l2.tail).2)
      else rec (.edgeE (if aL 60 l = true then 1 else 2) ⟨#[]⟩ ⟨#[]⟩ [] []) l2
  | .edgeP d var ty, l =>
    if aL 123 l = true then bnd (rec .props l) fun p r => must (aL 93 r) r (rec (.edgeE d var ty p.strs p.exs))
    else must (aL 93 l) l (rec (.edgeE d var ty [] []))
  | .edgeE d var ty ks vs, l => must (aL 45 l) l fun r =>
      if d = 2 /\ aL 62 r = true then dX (.ep ⟨var, ty, 0, ks, vs⟩) r.tail else dX (.ep ⟨var, ty, d, ks, vs⟩) r
  | .path, l => bnd (rec .node l) fun v r => rec (.segs [v.node] []) r
  | .segs ns es, l => if (aL 45 l || aL 60 l) = true then bnd (rec .edge l) fun e r => bnd (rec .node r) fun n r2 => rec (.segs (ns ++ [n.node]) (es ++ [e.edge])) r2 else dX (.pt ⟨ns, es⟩) l
  | .paths, l => bnd (rec .path l) fun v r => rec (.more [v.path]) r
  | .more acc, l => if aL 44 l = true then bnd (rec .path l.tail) fun v r => rec (.more (acc ++ [v.path])) r else dX (.ps acc) l
  | .maybe w, l => if cB w l = true then bnd (rec (.expr 1) l.tail) fun v r => dX (.xs [v.ex]) r else dX (.xs []) l
  | .item, l => bnd (rec (.expr 1) l) fun v r =>
      if Bn v.ex = 2 /\ cB Bo r = false then dX (.it ⟨v.ex, v7 v.ex⟩) r else must (cB Bo r) r fun r1 => dY r1 fun k r2 => dX (.it ⟨v.ex, k⟩) r2
  | .its acc, l => if aL 44 l = true then bnd (rec .item l.tail) fun v r => rec (.its (acc ++ [v.item])) r else dX (.il acc) l
  | .sorts, l => if cB wm l = true then must (cB Ct l.tail) l.tail (rec (.sortL [])) else dX (.ol []) l
  | .sortL acc, l => bnd (rec (.expr 1) l) fun v r =>
      if aL 44 (if (cB tS r || cB jU r) = true then r.tail else r) = true then rec (.sortL (acc ++ [⟨v.ex, cB jU r⟩])) (if (cB tS r || cB jU r) = true then r.tail else r).tail
      else dX (.ol (acc ++ [⟨v.ex, cB jU r⟩])) (if (cB tS r || cB jU r) = true then r.tail else r)
  | .rows kind, l => bnd (rec .item (if cB im l = true then l.tail else l)) fun i r => bnd (rec (.its [i.item]) r) fun is r1 => bnd (rec .sorts r1) fun os r2 =>
      bnd (rec (.maybe wn) r2) fun sk r3 => bnd (rec (.maybe qY) r3) fun li r4 =>
        dX (.cl { aC kind with items := is.items, uniq := cB im l, order := os.sorts, skip := sk.exs, limit := li.exs }) r4
  | .setL kind acc, l => dY l fun x r =>
      if aL 58 r = true then fB r.tail fun k r2 => (if aL 44 r2 = true then rec (.setL kind (acc ++ [⟨x, ⟨#[]⟩, k, cJ⟩])) r2.tail else dX (.zl (acc ++ [⟨x, ⟨#[]⟩, k, cJ⟩])) r2)
      else must (aL 46 r) r fun r1 => fB r1 fun k r2 =>
        if kind = 6 then must (aL 61 r2) r2 fun r3 => bnd (rec (.expr 1) r3) fun v r4 => (if aL 44 r4 = true then rec (.setL kind (acc ++ [⟨x, k, ⟨#[]⟩, v.ex⟩])) r4.tail else dX (.zl (acc ++ [⟨x, k, ⟨#[]⟩, v.ex⟩])) r4)
        else (if aL 44 r2 = true then rec (.setL kind (acc ++ [⟨x, k, ⟨#[]⟩, cJ⟩])) r2.tail else dX (.zl (acc ++ [⟨x, k, ⟨#[]⟩, cJ⟩])) r2)
  | .vars acc, l => dY l fun x r => if aL 44 r = true then rec (.vars (acc ++ [x])) r.tail else dX (.ss (acc ++ [x])) r
  | .clause w, l =>
    if w = ek then bnd (rec .paths l) fun p r => bnd (rec (.maybe nL) r) fun h r1 => dX (.cl { aC 1 with paths := p.paths, whr := h.exs }) r1
    else if w = dn then bnd (rec (.expr 1) l) fun v r => must (cB Bo r) r fun r1 => dY r1 fun k r2 => dX (.cl { aC 2 with e := v.ex, var := k }) r2
    else if w = fC then bnd (rec (.rows 3) l) fun c r => bnd (rec (.maybe nL) r) fun h r1 => dX (.cl { c.clause with whr := h.exs }) r1
    else if w = dp then rec (.rows 9) l
    else if w = dq then bnd (rec .paths l) fun p r => dX (.cl { aC 4 with paths := p.paths }) r
    else if w = em then bnd (rec .node l) fun n r => dX (.cl { aC 5 with paths := [⟨[n.node], []⟩] }) r
    else if w = iX then bnd (rec (.setL 6 []) l) fun z r => dX (.cl { aC 6 with sets := z.sets }) r
    else if w = dr then bnd (rec (.setL 7 []) l) fun z r => dX (.cl { aC 7 with sets := z.sets }) r
    else if w = dc then bnd (rec (.vars []) l) fun z r => dX (.cl { aC 8 with vars := z.strs }) r
    else must (cB dc l) l fun l1 => bnd (rec (.vars []) l1) fun z r => dX (.cl { aC 8 with vars := z.strs, detach := true }) r
  | .stmt acc, l =>
    if (nx l).k = 6 /\ 4 <= mx acc then dX (.cs acc) l
    else if (nx l).k = 2 /\ (nx l).t ∈ gU /\ mx acc ≠ 9 then bnd (rec (.clause (nx l).t) l.tail) fun c r => rec (.stmt (acc ++ [c.clause])) r
    else some (.bad l)
def run : Nat -> G -> List am -> O
  | 0, _, _ => none
  | f + 1, g, l => step (run f) g l
def Le (a b : O) : Prop := a = none \/ a = b
theorem Le.refl (a : O) : Le a a := .inr rfl
theorem Ax {a b : O} {k h : V -> List am -> O} (h1 : Le a b) (h2 : ∀ v r, Le (k v r) (h v r)) : Le (bnd a k) (bnd b h) := by
 rcases h1 with rfl | rfl
 ·exact .inl rfl
 ·cases a with
  | none => exact .inl rfl
  | some p => cases p with
   | ok v r => exact h2 v r
   | bad r => exact .refl _
theorem yH {b : Bool} {l : List am} {k h : List am -> O} (h2 : ∀ r, Le (k r) (h r)) : Le (must b l k) (must b l h) := by
 unfold must; split
 ·exact h2 _
 ·exact .refl _
theorem yI {l : List am} {k h : ByteArray -> List am -> O} (h2 : ∀ s r, Le (k s r) (h s r)) : Le (fB l k) (fB l h) := by
 unfold fB; split
 ·exact h2 _ _
 ·exact .refl _
theorem wq {l : List am} {k h : ByteArray -> List am -> O} (h2 : ∀ s r, Le (k s r) (h s r)) : Le (dY l k) (dY l h) := by
 unfold dY; split
 ·exact h2 _ _
 ·exact .refl _
theorem Ay {p : Prop} [Decidable p] {a b c d : O} (h1 : Le a c) (h2 : Le b d) : Le (if p then a else b) (if p then c else d) := by split <;> assumption
theorem yJ {r r' : G -> List am -> O} (h : ∀ g l, Le (r g l) (r' g l)) : ∀ g l, Le (step r g l) (step r' g l) := by
 intro g l;cases g <;> simp only [step] <;> repeat (first | exact h _ _ | exact Le.refl _ | exact fun _ => h _ _ | refine Ay ?_ ?_ | refine Ax ?_ (fun _ _ => ?_) | refine yH (fun _ => ?_) | refine yI (fun _ _ => ?_) | refine wq (fun _ _ => ?_))
theorem wt : ∀ (f : Nat) (g : G) (l : List am), Le (run f g l) (run (f + 1) g l)
  | 0, _, _ => .inl rfl
  | f + 1, g, l => yJ (wt f) g l
theorem qZ {f : Nat} {g : G} {l : List am} {x : Pr} (h : run f g l = some x) : ∀ k, run (f + k) g l = some x := by
 intro k
 induction k with
 | zero => exact h
 | succ k ih =>
  rcases wt (f + k) g l with h1 | h1
  ·rw [ih] at h1; cases h1
  ·rw [<- ih, h1]; rfl
def nM (g : G) (l : List am) (x : Pr) : Prop := ∃ f, run f g l = some x
theorem nM.up {g : G} {l : List am} {x : Pr} (h : nM g l x) : ∃ f, ∀ k, f <= k -> run k g l = some x := by
 obtain ⟨f, h⟩ := h;exact ⟨f, fun k hk => by have := qZ h (k - f); rwa [show f + (k - f) = k from by omega] at this⟩
theorem nM.fn {g : G} {l : List am} {x y : Pr} (h1 : nM g l x) (h2 : nM g l y) : x = y := by
 obtain ⟨f1, h1⟩ := h1.up;obtain ⟨f2, h2⟩ := h2.up;have a := h1 (f1 + f2) (by omega);rw [h2 (f1 + f2) (by omega)] at a;exact (Option.some.inj a).symm
def qi (o : (G -> List am -> O) -> O) (x : Pr) : Prop := ∃ f, ∀ k, f <= k -> o (run k) = some x
theorem nM.of {g : G} {l : List am} {x : Pr} (h : qi (fun r => step r g l) x) : nM g l x := by
 obtain ⟨f, h⟩ := h;exact ⟨f + 1, h f (Nat.le_refl _)⟩
theorem qi.rec {g : G} {l : List am} {x : Pr} (h : nM g l x) : qi (fun r => r g l) x := h.up
theorem qi.ok {x : Pr} : qi (fun _ => some x) x := ⟨0, fun _ _ => rfl⟩
theorem qi.bnd {o : (G -> List am -> O) -> O} {k : (G -> List am -> O) -> V -> List am -> O} {v : V} {r : List am} {x : Pr} (h1 : qi o (.ok v r)) (h2 : qi (fun c => k c v r) x) : qi (fun c => bnd (o c) (k c)) x := by
 obtain ⟨f1, h1⟩ := h1;obtain ⟨f2, h2⟩ := h2;refine ⟨f1 + f2, fun n hn => ?_⟩;show Go.Proofs.YteljlahcdipilaaGreat.bnd (o (run n)) (k (run n)) = some x;rw [h1 n (by omega)];exact h2 n (by omega)
end Go.Proofs.YteljlahcdipilaaGreat

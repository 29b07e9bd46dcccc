/- Parts X56 of this seat (pruned, scripts that are alike kept once as default arguments: q1, q2, ..). Conditions: each says its own. -/
import Derived.Test.YteljlahcdipilaaGreatF20
namespace Go.Proofs.YteljlahcdipilaaGreat
open Go.RowKit Go.Shelf
set_option linter.unusedSimpArgs false
set_option linter.unusedVariables false
set_option maxRecDepth 100000
inductive V where
  | x (t : Ex)
  | xs (l : List Ex)
  | kv (ks : List ByteArray) (vs : List Ex)
  | ss (l : List ByteArray)
  | np (n : Npt)
  | ep (e : Ept)
  | pt (p : Ptt)
  | ps (l : List Ptt)
  | it (i : Itt)
  | il (l : List Itt)
  | ol (l : List Sot)
  | zl (l : List Sit)
  | cl (c : Clt)
  | cs (l : List Clt)
def V.ex : V → Ex | .x t => t | _ => emptyX
def V.exs : V → List Ex | .xs l => l | .kv _ vs => vs | _ => []
def V.strs : V → List ByteArray | .ss l => l | .kv ks _ => ks | _ => []
def V.node : V → Npt | .np n => n | _ => ⟨⟨#[]⟩, [], [], []⟩
def V.edge : V → Ept | .ep n => n | _ => ⟨⟨#[]⟩, ⟨#[]⟩, 0, [], []⟩
def V.path : V → Ptt | .pt n => n | _ => ⟨[], []⟩
def V.paths : V → List Ptt | .ps n => n | _ => []
def V.item : V → Itt | .it n => n | _ => ⟨emptyX, ⟨#[]⟩⟩
def V.items : V → List Itt | .il n => n | _ => []
def V.sorts : V → List Sot | .ol n => n | _ => []
def V.sets : V → List Sit | .zl n => n | _ => []
def V.clause : V → Clt | .cl n => n | _ => bareC 0
def V.clauses : V → List Clt | .cs n => n | _ => []
inductive G where
  | expr (least : Nat)
  | loop (least most : Nat) (left : Ex)
  | unary (least : Nat)
  | post (x : Ex)
  | atom
  | list (stop : List UInt8)
  | items (stop : List UInt8) (acc : List Ex)
  | props
  | pairs (ks : List ByteArray) (vs : List Ex)
  | labels (acc : List ByteArray)
  | node
  | edge
  | edgeP (d : Int) (var ty : ByteArray)
  | edgeE (d : Int) (var ty : ByteArray) (ks : List ByteArray) (vs : List Ex)
  | path
  | segs (ns : List Npt) (es : List Ept)
  | paths
  | more (acc : List Ptt)
  | maybe (w : List UInt8)
  | item
  | its (acc : List Itt)
  | sorts
  | sortL (acc : List Sot)
  | rows (kind : Int)
  | setL (kind : Int) (acc : List Sit)
  | vars (acc : List ByteArray)
  | clause (w : List UInt8)
  | stmt (acc : List Clt)
inductive Pr where
  | ok (v : V) (r : List Tok)
  | bad (r : List Tok)
abbrev O := Option Pr
def bnd (o : O) (k : V → List Tok → O) : O := match o with
  | none => none
  | some (.bad r) => some (.bad r)
  | some (.ok v r) => k v r
def okP (v : V) (r : List Tok) : O := some (.ok v r)
def nx (l : List Tok) : Tok := l.headD ⟨6, [], 0⟩
def isT (k : Nat) (s : List UInt8) (l : List Tok) : Bool := decide ((nx l).k = k) && decide ((nx l).t = s)
def sigB (c : UInt8) (l : List Tok) : Bool := isT 5 [c] l
def wrd (s : List UInt8) (l : List Tok) : Bool := isT 2 s l
def must (b : Bool) (l : List Tok) (k : List Tok → O) : O := if b = true then k l.tail else some (.bad l)
def keyP (l : List Tok) (k : ByteArray → List Tok → O) : O :=
  if (nx l).k = 1 ∨ ((nx l).k = 4 ∧ (nx l).t ≠ [] ∧ (nx l).t.length ≤ 64) then k (strOf (nx l).t) l.tail else some (.bad l)
def nameP (l : List Tok) (k : ByteArray → List Tok → O) : O := if (nx l).k = 1 then k (strOf (nx l).t) l.tail else some (.bad l)
abbrev wNOT : List UInt8 := [78, 79, 84]
abbrev wNULL : List UInt8 := [78, 85, 76, 76]
abbrev wTRUE : List UInt8 := [84, 82, 85, 69]
abbrev wFALSE : List UInt8 := [70, 65, 76, 83, 69]
abbrev wIS : List UInt8 := [73, 83]
abbrev wAS : List UInt8 := [65, 83]
abbrev wCount : List UInt8 := [99, 111, 117, 110, 116]
abbrev wWHERE : List UInt8 := [87, 72, 69, 82, 69]
abbrev wORDER : List UInt8 := [79, 82, 68, 69, 82]
abbrev wBY : List UInt8 := [66, 89]
abbrev wASC : List UInt8 := [65, 83, 67]
abbrev wDESC : List UInt8 := [68, 69, 83, 67]
abbrev wSKIP : List UInt8 := [83, 75, 73, 80]
abbrev wLIMIT : List UInt8 := [76, 73, 77, 73, 84]
abbrev wDISTINCT : List UInt8 := [68, 73, 83, 84, 73, 78, 67, 84]
abbrev wMATCH : List UInt8 := [77, 65, 84, 67, 72]
abbrev wUNWIND : List UInt8 := [85, 78, 87, 73, 78, 68]
abbrev wWITH : List UInt8 := [87, 73, 84, 72]
abbrev wRETURN : List UInt8 := [82, 69, 84, 85, 82, 78]
abbrev wCREATE : List UInt8 := [67, 82, 69, 65, 84, 69]
abbrev wMERGE : List UInt8 := [77, 69, 82, 71, 69]
abbrev wSET : List UInt8 := [83, 69, 84]
abbrev wREMOVE : List UInt8 := [82, 69, 77, 79, 86, 69]
abbrev wDELETE : List UInt8 := [68, 69, 76, 69, 84, 69]
abbrev wDETACH : List UInt8 := [68, 69, 84, 65, 67, 72]
def headsL : List (List UInt8) := [wMATCH, wUNWIND, wWITH, wRETURN, wCREATE, wMERGE, wSET, wREMOVE, wDELETE, wDETACH]
def pwT (t : Tok) : Nat := if t.k = 5 ∨ t.k = 2 then (if t.t = wIS then 5 else (levelB (strOf t.t)).toNat) else 0
def mE (op : Int) (nm : ByteArray) (az : List Ex) : Ex := .mk op nm emptyV [] az
def mV (v : Vt) : Ex := .mk 1 ⟨#[]⟩ v [] []
def lastK (l : List Clt) : Int := match l.getLast? with | some c => c.kind | none => 0
def mayN (l : List Tok) : ByteArray × List Tok := if (nx l).k = 1 then (strOf (nx l).t, l.tail) else (⟨#[]⟩, l)
def step (rec : G → List Tok → O) : G → List Tok → O
  | .expr least, l => bnd (rec (.unary least) l) fun v r => rec (.loop least (if least ≤ 4 ∧ wrd wNOT l = true then 3 else 9) v.ex) r
  | .loop least most left, l =>
    if pwT (nx l) < least ∨ pwT (nx l) = 0 ∨ most < pwT (nx l) then okP (.x left) l
    else if (nx l).t = wIS then
      (if wrd wNOT l.tail = true then must (wrd wNULL l.tail.tail) l.tail.tail (rec (.loop least (if pwT (nx l) = 5 then 4 else pwT (nx l)) (mE 12 ⟨#[]⟩ [left])))
       else must (wrd wNULL l.tail) l.tail (rec (.loop least (if pwT (nx l) = 5 then 4 else pwT (nx l)) (mE 11 ⟨#[]⟩ [left]))))
    else bnd (rec (.expr (pwT (nx l) + 1)) l.tail) fun v r => rec (.loop least (if pwT (nx l) = 5 then 4 else pwT (nx l)) (mE 10 (strOf (nx l).t) [left, v.ex])) r
  | .unary least, l =>
    if least ≤ 4 ∧ wrd wNOT l = true then bnd (rec (.expr 4) l.tail) fun v r => okP (.x (mE 9 ⟨#[]⟩ [v.ex])) r
    else if sigB 45 l = true then bnd (rec (.unary 8) l.tail) fun v r => okP (.x (mE 8 ⟨#[]⟩ [v.ex])) r
    else bnd (rec .atom l) fun v r => rec (.post v.ex) r
  | .post x, l =>
    if sigB 46 l = true then keyP l.tail fun k r => rec (.post (mE 4 k [x])) r
    else if sigB 91 l = true then bnd (rec (.expr 1) l.tail) fun v r => must (sigB 93 r) r (rec (.post (mE 7 ⟨#[]⟩ [x, v.ex])))
    else if opX x = 2 ∧ sigB 58 l = true then keyP l.tail fun k r => rec (.post (mE 15 k [x])) r
    else okP (.x x) l
  | .atom, l =>
    if (nx l).k = 3 then okP (.x (mV (.mk 2 false (nx l).n ⟨#[]⟩ [] []))) l.tail
    else if (nx l).k = 4 then okP (.x (mV (.mk 3 false 0 (strOf (nx l).t) [] []))) l.tail
    else if (nx l).k = 1 then
      (if sigB 40 l.tail = true then
        (if aggB (strOf (nx l).t) = true then
          (if (nx l).t = wCount ∧ sigB 42 l.tail.tail = true then must (sigB 41 l.tail.tail.tail) l.tail.tail.tail fun r => okP (.x (mE 14 (strOf (nx l).t) [])) r
           else bnd (rec (.expr 1) l.tail.tail) fun v r => must (sigB 41 r) r fun r2 => okP (.x (mE 14 (strOf (nx l).t) [v.ex])) r2)
         else bnd (rec (.list [41]) l.tail.tail) fun v r => okP (.x (mE 13 (strOf (nx l).t) v.exs)) r)
       else okP (.x (mE 2 (strOf (nx l).t) [])) l.tail)
    else if wrd wNULL l = true then okP (.x (mV emptyV)) l.tail
    else if (wrd wTRUE l || wrd wFALSE l) = true then okP (.x (mV (.mk 1 (decide ((nx l).t = wTRUE)) 0 ⟨#[]⟩ [] []))) l.tail
    else if sigB 36 l = true then nameP l.tail fun k r => okP (.x (mE 3 k [])) r
    else if sigB 40 l = true then bnd (rec (.expr 1) l.tail) fun v r => must (sigB 41 r) r fun r2 => okP (.x v.ex) r2
    else if sigB 91 l = true then bnd (rec (.list [93]) l.tail) fun v r => okP (.x (mE 5 ⟨#[]⟩ v.exs)) r
    else if sigB 123 l = true then bnd (rec .props l) fun v r => okP (.x (.mk 6 ⟨#[]⟩ emptyV v.strs v.exs)) r
    else some (.bad l)
  | .list stop, l => if isT 5 stop l = true then okP (.xs []) l.tail else rec (.items stop []) l
  | .items stop acc, l => bnd (rec (.expr 1) l) fun v r => if sigB 44 r = true then rec (.items stop (acc ++ [v.ex])) r.tail else must (isT 5 stop r) r fun r2 => okP (.xs (acc ++ [v.ex])) r2
  | .props, l => must (sigB 123 l) l fun l1 => if sigB 125 l1 = true then okP (.kv [] []) l1.tail else rec (.pairs [] []) l1
  | .pairs ks vs, l => keyP l fun k r => must (sigB 58 r) r fun r1 => bnd (rec (.expr 1) r1) fun v r2 =>
      if sigB 44 r2 = true then rec (.pairs (ks ++ [k]) (vs ++ [v.ex])) r2.tail else must (sigB 125 r2) r2 fun r3 => okP (.kv (ks ++ [k]) (vs ++ [v.ex])) r3
  | .labels acc, l => if sigB 58 l = true then keyP l.tail fun k r => rec (.labels (acc ++ [k])) r else okP (.ss acc) l
  | .node, l => must (sigB 40 l) l fun l1 => bnd (rec (.labels []) (mayN l1).2) fun v r =>
      if sigB 123 r = true then bnd (rec .props r) fun p r2 => must (sigB 41 r2) r2 fun r3 => okP (.np ⟨(mayN l1).1, v.strs, p.strs, p.exs⟩) r3
      else must (sigB 41 r) r fun r3 => okP (.np ⟨(mayN l1).1, v.strs, [], []⟩) r3
  | .edge, l =>
    must (sigB 45 (if sigB 60 l = true then l.tail else l)) (if sigB 60 l = true then l.tail else l) fun l2 =>
      if sigB 91 l2 = true then
        (if sigB 58 (mayN l2.tail).2 = true then keyP (mayN l2.tail).2.tail fun k r => rec (.edgeP (if sigB 60 l = true then 1 else 2) (mayN l2.tail).1 k) r
         else rec (.edgeP (if sigB 60 l = true then 1 else 2) (mayN l2.tail).1 ⟨#[]⟩) (mayN l2.tail).2)
      else rec (.edgeE (if sigB 60 l = true then 1 else 2) ⟨#[]⟩ ⟨#[]⟩ [] []) l2
  | .edgeP d var ty, l =>
    if sigB 123 l = true then bnd (rec .props l) fun p r => must (sigB 93 r) r (rec (.edgeE d var ty p.strs p.exs))
    else must (sigB 93 l) l (rec (.edgeE d var ty [] []))
  | .edgeE d var ty ks vs, l => must (sigB 45 l) l fun r =>
      if d = 2 ∧ sigB 62 r = true then okP (.ep ⟨var, ty, 0, ks, vs⟩) r.tail else okP (.ep ⟨var, ty, d, ks, vs⟩) r
  | .path, l => bnd (rec .node l) fun v r => rec (.segs [v.node] []) r
  | .segs ns es, l => if (sigB 45 l || sigB 60 l) = true then bnd (rec .edge l) fun e r => bnd (rec .node r) fun n r2 => rec (.segs (ns ++ [n.node]) (es ++ [e.edge])) r2 else okP (.pt ⟨ns, es⟩) l
  | .paths, l => bnd (rec .path l) fun v r => rec (.more [v.path]) r
  | .more acc, l => if sigB 44 l = true then bnd (rec .path l.tail) fun v r => rec (.more (acc ++ [v.path])) r else okP (.ps acc) l
  | .maybe w, l => if wrd w l = true then bnd (rec (.expr 1) l.tail) fun v r => okP (.xs [v.ex]) r else okP (.xs []) l
  | .item, l => bnd (rec (.expr 1) l) fun v r =>
      if opX v.ex = 2 ∧ wrd wAS r = false then okP (.it ⟨v.ex, nameX v.ex⟩) r else must (wrd wAS r) r fun r1 => nameP r1 fun k r2 => okP (.it ⟨v.ex, k⟩) r2
  | .its acc, l => if sigB 44 l = true then bnd (rec .item l.tail) fun v r => rec (.its (acc ++ [v.item])) r else okP (.il acc) l
  | .sorts, l => if wrd wORDER l = true then must (wrd wBY l.tail) l.tail (rec (.sortL [])) else okP (.ol []) l
  | .sortL acc, l => bnd (rec (.expr 1) l) fun v r =>
      if sigB 44 (if (wrd wASC r || wrd wDESC r) = true then r.tail else r) = true then rec (.sortL (acc ++ [⟨v.ex, wrd wDESC r⟩])) (if (wrd wASC r || wrd wDESC r) = true then r.tail else r).tail
      else okP (.ol (acc ++ [⟨v.ex, wrd wDESC r⟩])) (if (wrd wASC r || wrd wDESC r) = true then r.tail else r)
  | .rows kind, l => bnd (rec .item (if wrd wDISTINCT l = true then l.tail else l)) fun i r => bnd (rec (.its [i.item]) r) fun is r1 => bnd (rec .sorts r1) fun os r2 =>
      bnd (rec (.maybe wSKIP) r2) fun sk r3 => bnd (rec (.maybe wLIMIT) r3) fun li r4 =>
        okP (.cl { bareC kind with items := is.items, uniq := wrd wDISTINCT l, order := os.sorts, skip := sk.exs, limit := li.exs }) r4
  | .setL kind acc, l => nameP l fun x r =>
      if sigB 58 r = true then keyP r.tail fun k r2 => (if sigB 44 r2 = true then rec (.setL kind (acc ++ [⟨x, ⟨#[]⟩, k, emptyX⟩])) r2.tail else okP (.zl (acc ++ [⟨x, ⟨#[]⟩, k, emptyX⟩])) r2)
      else must (sigB 46 r) r fun r1 => keyP r1 fun k r2 =>
        if kind = 6 then must (sigB 61 r2) r2 fun r3 => bnd (rec (.expr 1) r3) fun v r4 => (if sigB 44 r4 = true then rec (.setL kind (acc ++ [⟨x, k, ⟨#[]⟩, v.ex⟩])) r4.tail else okP (.zl (acc ++ [⟨x, k, ⟨#[]⟩, v.ex⟩])) r4)
        else (if sigB 44 r2 = true then rec (.setL kind (acc ++ [⟨x, k, ⟨#[]⟩, emptyX⟩])) r2.tail else okP (.zl (acc ++ [⟨x, k, ⟨#[]⟩, emptyX⟩])) r2)
  | .vars acc, l => nameP l fun x r => if sigB 44 r = true then rec (.vars (acc ++ [x])) r.tail else okP (.ss (acc ++ [x])) r
  | .clause w, l =>
    if w = wMATCH then bnd (rec .paths l) fun p r => bnd (rec (.maybe wWHERE) r) fun h r1 => okP (.cl { bareC 1 with paths := p.paths, whr := h.exs }) r1
    else if w = wUNWIND then bnd (rec (.expr 1) l) fun v r => must (wrd wAS r) r fun r1 => nameP r1 fun k r2 => okP (.cl { bareC 2 with e := v.ex, var := k }) r2
    else if w = wWITH then bnd (rec (.rows 3) l) fun c r => bnd (rec (.maybe wWHERE) r) fun h r1 => okP (.cl { c.clause with whr := h.exs }) r1
    else if w = wRETURN then rec (.rows 9) l
    else if w = wCREATE then bnd (rec .paths l) fun p r => okP (.cl { bareC 4 with paths := p.paths }) r
    else if w = wMERGE then bnd (rec .node l) fun n r => okP (.cl { bareC 5 with paths := [⟨[n.node], []⟩] }) r
    else if w = wSET then bnd (rec (.setL 6 []) l) fun z r => okP (.cl { bareC 6 with sets := z.sets }) r
    else if w = wREMOVE then bnd (rec (.setL 7 []) l) fun z r => okP (.cl { bareC 7 with sets := z.sets }) r
    else if w = wDELETE then bnd (rec (.vars []) l) fun z r => okP (.cl { bareC 8 with vars := z.strs }) r
    else must (wrd wDELETE l) l fun l1 => bnd (rec (.vars []) l1) fun z r => okP (.cl { bareC 8 with vars := z.strs, detach := true }) r
  | .stmt acc, l =>
    if (nx l).k = 6 ∧ 4 ≤ lastK acc then okP (.cs acc) l
    else if (nx l).k = 2 ∧ (nx l).t ∈ headsL ∧ lastK acc ≠ 9 then bnd (rec (.clause (nx l).t) l.tail) fun c r => rec (.stmt (acc ++ [c.clause])) r
    else some (.bad l)
def run : Nat → G → List Tok → O
  | 0, _, _ => none
  | f + 1, g, l => step (run f) g l
def Le (a b : O) : Prop := a = none ∨ a = b
theorem Le.refl (a : O) : Le a a := .inr rfl
theorem bnd_le {a b : O} {k h : V → List Tok → O} (h1 : Le a b) (h2 : ∀ v r, Le (k v r) (h v r)) : Le (bnd a k) (bnd b h) := by
 rcases h1 with rfl | rfl
 ·exact .inl rfl
 ·cases a with
  | none => exact .inl rfl
  | some p => cases p with
   | ok v r => exact h2 v r
   | bad r => exact .refl _
theorem must_le {b : Bool} {l : List Tok} {k h : List Tok → O} (h2 : ∀ r, Le (k r) (h r)) : Le (must b l k) (must b l h) := by
 unfold must; split
 ·exact h2 _
 ·exact .refl _
theorem keyP_le {l : List Tok} {k h : ByteArray → List Tok → O} (h2 : ∀ s r, Le (k s r) (h s r)) : Le (keyP l k) (keyP l h) := by
 unfold keyP; split
 ·exact h2 _ _
 ·exact .refl _
theorem nameP_le {l : List Tok} {k h : ByteArray → List Tok → O} (h2 : ∀ s r, Le (k s r) (h s r)) : Le (nameP l k) (nameP l h) := by
 unfold nameP; split
 ·exact h2 _ _
 ·exact .refl _
theorem ite_le {p : Prop} [Decidable p] {a b c d : O} (h1 : Le a c) (h2 : Le b d) : Le (if p then a else b) (if p then c else d) := by split <;> assumption
theorem step_le {r r' : G → List Tok → O} (h : ∀ g l, Le (r g l) (r' g l)) : ∀ g l, Le (step r g l) (step r' g l) := by
 intro g l
 cases g <;> simp only [step] <;> repeat (first | exact h _ _ | exact Le.refl _ | exact fun _ => h _ _ | refine ite_le ?_ ?_ | refine bnd_le ?_ (fun _ _ => ?_) | refine must_le (fun _ => ?_) | refine keyP_le (fun _ _ => ?_) | refine nameP_le (fun _ _ => ?_))
theorem run_le : ∀ (f : Nat) (g : G) (l : List Tok), Le (run f g l) (run (f + 1) g l)
  | 0, _, _ => .inl rfl
  | f + 1, g, l => step_le (run_le f) g l
theorem run_up {f : Nat} {g : G} {l : List Tok} {x : Pr} (h : run f g l = some x) : ∀ k, run (f + k) g l = some x := by
 intro k
 induction k with
 | zero => exact h
 | succ k ih =>
  rcases run_le (f + k) g l with h1 | h1
  ·rw [ih] at h1; cases h1
  ·rw [← ih, h1]; rfl
def Run (g : G) (l : List Tok) (x : Pr) : Prop := ∃ f, run f g l = some x
theorem Run.up {g : G} {l : List Tok} {x : Pr} (h : Run g l x) : ∃ f, ∀ k, f ≤ k → run k g l = some x := by
 obtain ⟨f, h⟩ := h
 exact ⟨f, fun k hk => by have := run_up h (k - f); rwa [show f + (k - f) = k from by omega] at this⟩
theorem Run.fn {g : G} {l : List Tok} {x y : Pr} (h1 : Run g l x) (h2 : Run g l y) : x = y := by
 obtain ⟨f1, h1⟩ := h1.up
 obtain ⟨f2, h2⟩ := h2.up
 have a := h1 (f1 + f2) (by omega)
 rw [h2 (f1 + f2) (by omega)] at a
 exact (Option.some.inj a).symm
def Ans (o : (G → List Tok → O) → O) (x : Pr) : Prop := ∃ f, ∀ k, f ≤ k → o (run k) = some x
theorem Run.of {g : G} {l : List Tok} {x : Pr} (h : Ans (fun r => step r g l) x) : Run g l x := by
 obtain ⟨f, h⟩ := h
 exact ⟨f + 1, h f (Nat.le_refl _)⟩
theorem Ans.rec {g : G} {l : List Tok} {x : Pr} (h : Run g l x) : Ans (fun r => r g l) x := h.up
theorem Ans.ok {x : Pr} : Ans (fun _ => some x) x := ⟨0, fun _ _ => rfl⟩
theorem Ans.bnd {o : (G → List Tok → O) → O} {k : (G → List Tok → O) → V → List Tok → O} {v : V} {r : List Tok} {x : Pr} (h1 : Ans o (.ok v r)) (h2 : Ans (fun c => k c v r) x) : Ans (fun c => bnd (o c) (k c)) x := by
 obtain ⟨f1, h1⟩ := h1
 obtain ⟨f2, h2⟩ := h2
 refine ⟨f1 + f2, fun n hn => ?_⟩
 show Go.Proofs.YteljlahcdipilaaGreat.bnd (o (run n)) (k (run n)) = some x
 rw [h1 n (by omega)]
 exact h2 n (by omega)
end Go.Proofs.YteljlahcdipilaaGreat

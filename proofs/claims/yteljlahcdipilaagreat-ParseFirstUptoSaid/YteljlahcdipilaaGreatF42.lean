/- Parts Q42, Q72, Q73, Q74 of this seat (pruned, scripts that are alike kept once as default arguments: q1, q2, ..). Conditions: each says its own. -/
import Derived.Test.YteljlahcdipilaaGreatF41
namespace Go.Proofs.YteljlahcdipilaaGreat
open Go.RowKit Go.Shelf
set_option linter.unusedSimpArgs false
set_option linter.unusedVariables false
set_option maxRecDepth 100000
def PAns (s : List UInt8) (p x : Int) : Prop := match scanL s with
  | .bad p' x' => p = p' ∧ x = x'
  | .ok L => (∃ (k : Nat) (y : Tok × Nat), L[k]? = some y ∧ Run (.stmt []) (rem L 0) (.bad (rem L k)) ∧ p = y.2 ∧ x = 1) ∨ (∃ v r, Run (.stmt []) (rem L 0) (.ok v r) ∧ p = 0 ∧ (x = 0 ∨ x = 8))
def ScanAll (s : ByteArray) (w : World) : Prop := match scanL s.data.toList with
  | .bad p x => x ≠ 0 ∧ ScanBad p x s w
  | .ok L => ScanOk L s w ∧ Tk L ∧ 0 < L.length ∧ L.length ≤ 4097 ∧ ∀ (j : Nat) y, L[j]? = some y → y.1.t.length ≤ 4294967296
theorem run_pos {g : G} {l : List Tok} {x : Pr} (h : Run g l x) : ∃ f, run (f + 1) g l = some x := by
 obtain ⟨f, h⟩ := h
 cases f with
 | zero => cases h
 | succ f => exact ⟨f, h⟩
theorem parse_pans (s : ByteArray) (w : World) (HS : ScanAll s w) (HR : ∀ L v r, scanL s.data.toList = .ok L → Run (.stmt []) (rem L 0) (.ok v r) → ∃ rb, RightIs v rb w) :
    Calls Tryz.prog 11 #[.string s] w fun e w' => Below w.heap.size w w' ∧ ∃ a n c p x, e = .returned (.tuple #[.agg #[.slice a n c], .int .i64 p, .int .i64 x]) ∧ PAns s.data.toList p x := by
 unfold ScanAll at HS
 unfold PAns
 cases hs : scanL s.data.toList with
 | bad p x =>
  rw [hs] at HS
  exact (parse_scan s p x w HS.1 HS.2).mono fun e w' h => ⟨h.2, _, _, _, _, _, h.1, rfl, rfl⟩
 | ok L =>
  rw [hs] at HS
  obtain ⟨h1, h2, h3, h4, h5⟩ := HS
  obtain ⟨x, hx⟩ := run_tot (.stmt []) (rem L 0)
  obtain ⟨f, hf⟩ := run_pos hx
  cases x with
  | bad r =>
   refine (parse_bad s L w h1 h2 h3 h4 h5 r hf).mono fun e w' ⟨k, y, g1, g2, g3, g4⟩ => ⟨g4, _, _, _, _, _, g3, .inl ⟨k, y, g1, by rw [← g2]; exact hx, rfl, rfl⟩⟩
  | ok v r =>
   obtain ⟨rb, hrb⟩ := HR L v r hs hx
   refine (parse_ok s L w h1 h2 h3 h4 h5 v r rb hrb hf).mono fun e w' ⟨g1, g2⟩ => ⟨g1, ?_⟩
   cases rb with
   | true =>
    rw [if_pos rfl] at g2
    obtain ⟨S, cs, rfl, -, hX⟩ := g2
    obtain ⟨a, c, rfl, -⟩ := hX.is
    exact ⟨_, _, _, _, _, rfl, .inr ⟨v, r, hx, rfl, .inl rfl⟩⟩
   | false =>
    rw [if_neg (by simp)] at g2
    exact ⟨_, _, _, _, _, g2, .inr ⟨v, r, hx, rfl, .inr rfl⟩⟩
section
variable (R R2 : List Tok)
def Pf (s : Bool) (m n : List Tok) : Prop := if s = true then m.length ≤ R.length else ∃ c, c ≠ [] ∧ m = c ++ R ∧ n = c ++ R2
def Sm (s : Bool) (a b : O) : Prop := ∀ x, a = some x → x.rest.length ≤ R.length ∨ (s = false ∧ ∃ c, c ≠ [] ∧ x.rest = c ++ R ∧ b = some (x.put (c ++ R2)))
end
section
variable {R R2 : List Tok}
theorem Sm.lift {s s' : Bool} {a b : O} (hs : s = true → s' = true) (h : Sm R R2 s' a b) : Sm R R2 s a b := fun x hx => by
  rcases h x hx with h | ⟨h1, h2⟩
  · exact .inl h
  · refine .inr ⟨?_, h2⟩
    cases s with
    | false => rfl
    | true => rw [hs rfl] at h1; cases h1
theorem Pf.nx {s : Bool} {m n : List Tok} (h : Pf R R2 s m n) : s = false → nx m = nx n := fun e => by
  subst e
  obtain ⟨c, hc, rfl, rfl⟩ := h
  cases c with
  | nil => exact absurd rfl hc
  | cons t c => rfl
theorem Pf.tail {s : Bool} {m n : List Tok} (h : Pf R R2 s m n) : ∃ s', (s = true → s' = true) ∧ Pf R R2 s' m.tail n.tail := by
 cases s with
 | true => exact ⟨true, fun h => h, Nat.le_trans (tl_le m) h⟩
 | false =>
  obtain ⟨c, hc, rfl, rfl⟩ := h
  match c, hc with
  | [t], _ => exact ⟨true, fun _ => rfl, Nat.le_refl _⟩
  | t :: u :: c, _ => exact ⟨false, fun h => h, u :: c, by simp, rfl, rfl⟩
theorem sm_ok {s : Bool} {v : V} {m n : List Tok} (h : Pf R R2 s m n) : Sm R R2 s (okP v m) (okP v n) := fun x hx => by
  cases hx
  cases s with
  | true => exact .inl h
  | false =>
    obtain ⟨c, hc, rfl, rfl⟩ := h
    exact .inr ⟨rfl, c, hc, rfl, rfl⟩
theorem sm_bad {s : Bool} {m n : List Tok} (h : Pf R R2 s m n) : Sm R R2 s (some (.bad m)) (some (.bad n)) := fun x hx => by
  cases hx
  cases s with
  | true => exact .inl h
  | false =>
    obtain ⟨c, hc, rfl, rfl⟩ := h
    exact .inr ⟨rfl, c, hc, rfl, rfl⟩
theorem sm_bnd {s : Bool} {a b : O} {k h : V → List Tok → O} (h1 : Sm R R2 s a b) (h2 : ∀ s' v m n, (s = true → s' = true) → Pf R R2 s' m n → Sm R R2 s' (k v m) (h v n)) : Sm R R2 s (bnd a k) (bnd b h) := by
 intro x hx
 cases a with
 | none => cases hx
 | some p =>
  cases p with
  | bad r =>
   cases hx
   rcases h1 _ rfl with h3 | ⟨h3, c, h4, h5, h6⟩
   ·exact .inl h3
   ·exact .inr ⟨h3, c, h4, h5, by rw [h6]; rfl⟩
  | ok v r =>
   have hx' : k v r = some x := hx
   rcases h1 _ rfl with h3 | ⟨h3, c, h4, h5, h6⟩
   ·have hP : Pf R R2 true r r := h3
    rcases h2 true v r r (fun _ => rfl) hP x hx' with h7 | ⟨h7, -⟩
    ·exact .inl h7
    ·cases h7
   ·have h5' : r = c ++ R := h5
    subst h3 h5'
    rw [h6]
    exact h2 false v _ _ (fun h => by cases h) ⟨c, h4, rfl, rfl⟩ x hx'
theorem sm_ite {s : Bool} {p q : Prop} [Decidable p] [Decidable q] {a b c d : O} (hp : s = false → (p ↔ q)) (h1 : Sm R R2 s a c) (h2 : Sm R R2 s b d) : Sm R R2 s (if p then a else b) (if q then c else d) := by
 cases s with
 | false =>
  have := hp rfl
  by_cases h : p
  ·rw [if_pos h, if_pos (this.1 h)]; exact h1
  ·rw [if_neg h, if_neg (fun k => h (this.2 k))]; exact h2
 | true =>
  intro x hx
  split at hx
  ·rcases h1 x hx with h | ⟨h, -⟩
   ·exact .inl h
   ·cases h
  ·rcases h2 x hx with h | ⟨h, -⟩
   ·exact .inl h
   ·cases h
theorem sm_must {s : Bool} {b b' : Bool} {m n : List Tok} {k h : List Tok → O} (hp : Pf R R2 s m n) (hb : s = false → b = b') (h1 : ∀ s' m n, (s = true → s' = true) → Pf R R2 s' m n → Sm R R2 s' (k m) (h n)) : Sm R R2 s (must b m k) (must b' n h) := by
 obtain ⟨s', h2, h3⟩ := hp.tail
 exact sm_ite (fun e => by rw [hb e]) ((h1 s' _ _ h2 h3).lift h2) (sm_bad hp)
theorem Sq517712 {P : Prop} (h : P := by
 obtain ⟨s', h2, h3⟩ := hp.tail
 first
 | (guard_hyp z517712a; unfold nameP)
 | (unfold keyP)
 cases s with
 | false => rw [hp.nx rfl]; exact sm_ite (fun _ => Iff.rfl) ((h1 s' _ _ _ h2 h3).lift h2) (sm_bad hp)
 | true =>
  have e := h2 rfl
  subst e
  refine sm_ite (fun e => by cases e) (fun x hx => ?_) (sm_bad hp)
  exact h1 true _ _ _ (fun _ => rfl) (show Pf R R2 true m.tail m.tail from h3) x hx |>.elim .inl fun h => by cases h.1) : P := h
theorem sm_key {s : Bool} {m n : List Tok} {k h : ByteArray → List Tok → O} (hp : Pf R R2 s m n) (h1 : ∀ s' x m n, (s = true → s' = true) → Pf R R2 s' m n → Sm R R2 s' (k x m) (h x n)) : Sm R R2 s (keyP m k) (keyP n h) := Sq517712
theorem sm_name {s : Bool} {m n : List Tok} {k h : ByteArray → List Tok → O} (hp : Pf R R2 s m n) (h1 : ∀ s' x m n, (s = true → s' = true) → Pf R R2 s' m n → Sm R R2 s' (k x m) (h x n)) : Sm R R2 s (nameP m k) (nameP n h) := by
 have z517712a := trivial
 exact Sq517712
end
section
variable {R R2 : List Tok}
theorem Pf.wrd {s : Bool} {m n : List Tok} (h : Pf R R2 s m n) (w : List UInt8) : s = false → wrd w m = wrd w n := fun e => by unfold Go.Proofs.YteljlahcdipilaaGreat.wrd isT; rw [h.nx e]
theorem Pf.sigB {s : Bool} {m n : List Tok} (h : Pf R R2 s m n) (c : UInt8) : s = false → sigB c m = sigB c n := fun e => by unfold Go.Proofs.YteljlahcdipilaaGreat.sigB isT; rw [h.nx e]
theorem Pf.isT {s : Bool} {m n : List Tok} (h : Pf R R2 s m n) (k : Nat) (w : List UInt8) : s = false → isT k w m = isT k w n := fun e => by unfold Go.Proofs.YteljlahcdipilaaGreat.isT; rw [h.nx e]
theorem Pf.may {s : Bool} {m n : List Tok} (h : Pf R R2 s m n) : ∃ s', (s = true → s' = true) ∧ Pf R R2 s' (mayN m).2 (mayN n).2 ∧ (s = false → (mayN m).1 = (mayN n).1) := by
 unfold mayN
 cases s with
 | true => exact ⟨true, fun _ => rfl, Nat.le_trans (may_le m) h, fun e => by cases e⟩
 | false =>
  rw [h.nx rfl]
  by_cases hk : (Go.Proofs.YteljlahcdipilaaGreat.nx n).k = 1
  ·rw [if_pos hk, if_pos hk]
   obtain ⟨s', h1, h2⟩ := h.tail
   exact ⟨s', h1, h2, fun _ => rfl⟩
  ·rw [if_neg hk, if_neg hk]
   exact ⟨false, fun e => e, h, fun _ => rfl⟩
theorem Pf.ite {s : Bool} {m n : List Tok} (h : Pf R R2 s m n) {p q : Prop} [Decidable p] [Decidable q] (hp : s = false → (p ↔ q)) : ∃ s', (s = true → s' = true) ∧ Pf R R2 s' (if p then m.tail else m) (if q then n.tail else n) := by
 cases s with
 | true => exact ⟨true, fun _ => rfl, Nat.le_trans (if_le p m) h⟩
 | false =>
  have := hp rfl
  by_cases hk : p
  ·rw [if_pos hk, if_pos (this.1 hk)]
   obtain ⟨s', h1, h2⟩ := h.tail
   exact ⟨s', h1, h2⟩
  ·rw [if_neg hk, if_neg fun e => hk (this.2 e)]
   exact ⟨false, fun e => e, h⟩
def SmAll (rec : G → List Tok → O) : Prop := ∀ (s : Bool) (g g' : G) (m n : List Tok), Pf R R2 s m n → (s = false → g = g') → Sm R R2 s (rec g m) (rec g' n)
theorem sm_rect {rec : G → List Tok → O} (h : SmAll (R := R) (R2 := R2) rec) {s : Bool} {g g' : G} {m n : List Tok} (hp : Pf R R2 s m n) (hg : s = false → g = g') : Sm R R2 s (rec g m.tail) (rec g' n.tail) := by
 obtain ⟨s', h1, h2⟩ := hp.tail
 cases s with
 | false => rw [hg rfl]; exact (h s' g' g' _ _ h2 fun _ => rfl).lift h1
 | true =>
  have e := h1 rfl
  subst e
  exact h true g g' _ _ h2 fun e => by cases e
theorem sm_okv {s : Bool} {v v' : V} {m n : List Tok} (h : Pf R R2 s m n) (hv : s = false → v = v') : Sm R R2 s (okP v m) (okP v' n) := by
 cases s with
 | false => rw [hv rfl]; exact sm_ok h
 | true => exact fun x hx => (sm_ok (v := v) h x hx).elim .inl fun h => by cases h.1
theorem sm_okt {s : Bool} {v v' : V} {m n : List Tok} (h : Pf R R2 s m n) (hv : s = false → v = v') : Sm R R2 s (okP v m.tail) (okP v' n.tail) := by
 obtain ⟨s', h1, h2⟩ := h.tail
 cases s with
 | false => rw [hv rfl]; exact (sm_ok h2).lift h1
 | true =>
  have e := h1 rfl
  subst e
  exact sm_okv h2 fun e => by cases e
theorem sm_tl {s : Bool} {m n : List Tok} {a b : O} (h : Pf R R2 s m n) (k : ∀ s', (s = true → s' = true) → Pf R R2 s' m.tail n.tail → Sm R R2 s' a b) : Sm R R2 s a b := by
 obtain ⟨s', h1, h2⟩ := h.tail
 exact (k s' h1 h2).lift h1
end
section
variable {R R2 : List Tok}
theorem ffs {s s' : Bool} (h : s = true → s' = true) (e : s' = false) : s = false := by
 cases s with
 | false => rfl
 | true => rw [h rfl] at e; cases e
theorem step_sm {rec : G → List Tok → O} (hsh : ∀ g l, Sh (rec g l) l) (H : SmAll (R := R) (R2 := R2) rec) : SmAll (R := R) (R2 := R2) (Go.Proofs.YteljlahcdipilaaGreat.step rec) := by
 intro s g g' m n hp hg
 cases s with
 | true => exact fun x hx => .inl (Nat.le_trans (step_sh hsh g m x hx) hp)
 | false =>
  obtain rfl := hg rfl
  have e0 := hp.nx rfl
  have hw : ∀ w, wrd w m = wrd w n := fun w => hp.wrd w rfl
  have hs : ∀ c, sigB c m = sigB c n := fun c => hp.sigB c rfl
  have hi : ∀ k w, isT k w m = isT k w n := fun k w => hp.isT k w rfl
  have R0 : ∀ {s g a b}, Pf R R2 s a b → Sm R R2 s (rec g a) (rec g b) := fun p => H _ _ _ _ _ p fun _ => rfl
  have R1 : ∀ {s g a b}, Pf R R2 s a b → Sm R R2 s (rec g a.tail) (rec g b.tail) := fun p => sm_rect H p fun _ => rfl
  have I : ∀ {s : Bool} {p : Prop} [Decidable p] {a b c d : O}, Sm R R2 s a c → Sm R R2 s b d → Sm R R2 s (if p then a else b) (if p then c else d) := fun h1 h2 => sm_ite (fun _ => Iff.rfl) h1 h2
  have Is : ∀ {s : Bool} {x y : List Tok} {c : UInt8} {a b a' b' : O}, Pf R R2 s x y → Sm R R2 s a a' → Sm R R2 s b b' → Sm R R2 s (if sigB c x = true then a else b) (if sigB c y = true then a' else b') := fun p h1 h2 => sm_ite (fun e => by rw [p.sigB _ e]) h1 h2
  have Ms : ∀ {s : Bool} {x y : List Tok} {c : UInt8} {k h : List Tok → O}, Pf R R2 s x y → (∀ s' a b, (s = true → s' = true) → Pf R R2 s' a b → Sm R R2 s' (k a) (h b)) → Sm R R2 s (must (sigB c x) x k) (must (sigB c y) y h) := fun p h1 => sm_must p (fun e => by rw [p.sigB _ e]) h1
  have Mw : ∀ {s : Bool} {x y : List Tok} {w : List UInt8} {k h : List Tok → O}, Pf R R2 s x y → (∀ s' a b, (s = true → s' = true) → Pf R R2 s' a b → Sm R R2 s' (k a) (h b)) → Sm R R2 s (must (wrd w x) x k) (must (wrd w y) y h) := fun p h1 => sm_must p (fun e => by rw [p.wrd _ e]) h1
  cases g <;> simp only [Go.Proofs.YteljlahcdipilaaGreat.step, hw, hs, hi, e0]
  case expr least => exact sm_bnd (R0 hp) fun _ _ _ _ _ p => R0 p
  case loop least most left =>
   exact I (sm_ok hp) (I (sm_tl hp fun _ _ p1 => sm_ite (fun e => by rw [p1.wrd _ e]) (sm_tl p1 fun _ _ p2 => Mw p2 fun _ _ _ _ p => R0 p) (Mw p1 fun _ _ _ _ p => R0 p)) (sm_bnd (R1 hp) fun _ _ _ _ _ p => R0 p))
  case unary least => exact I (sm_bnd (R1 hp) fun _ _ _ _ _ p => sm_ok p) (I (sm_bnd (R1 hp) fun _ _ _ _ _ p => sm_ok p) (sm_bnd (R0 hp) fun _ _ _ _ _ p => R0 p))
  case post x => exact I (sm_tl hp fun _ _ p1 => sm_key p1 fun _ _ _ _ _ p => R0 p) (I (sm_bnd (R1 hp) fun _ _ _ _ _ p => Ms p fun _ _ _ _ p => R0 p) (I (sm_tl hp fun _ _ p1 => sm_key p1 fun _ _ _ _ _ p => R0 p) (sm_ok hp)))
  case atom =>
   exact I (sm_okt hp fun _ => rfl) (I (sm_okt hp fun _ => rfl) (I
    (sm_tl hp fun _ _ p1 => Is p1 (I (sm_tl p1 fun _ _ p2 => sm_ite (fun e => by rw [p2.sigB _ e]) (sm_tl p2 fun _ _ p3 => Ms p3 fun _ _ _ _ p => sm_ok p) (sm_bnd (R0 p2) fun _ _ _ _ _ p => Ms p fun _ _ _ _ p => sm_ok p)) (sm_tl p1 fun _ _ p2 => sm_bnd (R0 p2) fun _ _ _ _ _ p => sm_ok p)) (sm_ok p1))
    (I (sm_okt hp fun _ => rfl) (I (sm_okt hp fun _ => rfl) (I (sm_tl hp fun _ _ p1 => sm_name p1 fun _ _ _ _ _ p => sm_ok p) (I (sm_bnd (R1 hp) fun _ _ _ _ _ p => Ms p fun _ _ _ _ p => sm_ok p) (I (sm_bnd (R1 hp) fun _ _ _ _ _ p => sm_ok p) (I (sm_bnd (R0 hp) fun _ _ _ _ _ p => sm_ok p) (sm_bad hp)))))))))
  case list stop => exact I (sm_okt hp fun _ => rfl) (R0 hp)
  case items stop acc => exact sm_bnd (R0 hp) fun _ _ _ _ _ p => Is p (R1 p) (sm_must p (fun e => by rw [p.isT _ _ e]) fun _ _ _ _ p => sm_ok p)
  case props => exact sm_must hp (fun _ => rfl) fun _ _ _ _ p => Is p (sm_okt p fun _ => rfl) (R0 p)
  case pairs ks vs => exact sm_key hp fun _ _ _ _ _ p => Ms p fun _ _ _ _ p => sm_bnd (R0 p) fun _ _ _ _ _ p => Is p (R1 p) (Ms p fun _ _ _ _ p => sm_ok p)
  case labels acc => exact I (sm_tl hp fun _ _ p1 => sm_key p1 fun _ _ _ _ _ p => R0 p) (sm_ok hp)
  case node =>
   refine sm_must hp (fun _ => rfl) fun s1 a b h1 p => ?_
   obtain ⟨s2, h2, p2, hv⟩ := p.may
   refine Sm.lift h2 (sm_bnd (R0 p2) fun s3 v c d h3 p3 => Is p3 (sm_bnd (R0 p3) fun s4 v c d h4 p4 => Ms p4 fun s5 c d h5 p5 => sm_okv p5 fun e => by rw [hv (ffs h2 (ffs h3 (ffs h4 (ffs h5 e))))]) (Ms p3 fun s4 c d h4 p4 => sm_okv p4 fun e => by rw [hv (ffs h2 (ffs h3 (ffs h4 e)))]))
  case edge =>
   obtain ⟨s1, h1, p1⟩ := hp.ite (p := sigB 60 n = true) (q := sigB 60 n = true) fun _ => Iff.rfl
   refine Sm.lift h1 (Ms p1 fun s2 a b h2 p2 => ?_)
   refine Is p2 (sm_tl p2 fun s3 h3 p3 => ?_) (R0 p2)
   obtain ⟨s4, h4, p4, hv⟩ := p3.may
   refine Sm.lift h4 (Is p4 (sm_tl p4 fun s5 h5 p5 => sm_key p5 fun s6 x c d h6 p6 => H _ _ _ _ _ p6 fun e => by rw [hv (ffs h4 (ffs h5 (ffs h6 e)))]) (H _ _ _ _ _ p4 fun e => by rw [hv (ffs h4 e)]))
  case edgeP d var ty => exact I (sm_bnd (R0 hp) fun _ _ _ _ _ p => Ms p fun _ _ _ _ p => R0 p) (sm_must hp (fun _ => rfl) fun _ _ _ _ p => R0 p)
  case edgeE d var ty ks vs => exact sm_must hp (fun _ => rfl) fun _ _ _ _ p => sm_ite (fun e => by rw [p.sigB _ e]) (sm_okt p fun _ => rfl) (sm_ok p)
  case path => exact sm_bnd (R0 hp) fun _ _ _ _ _ p => R0 p
  case segs ns es => exact I (sm_bnd (R0 hp) fun _ _ _ _ _ p => sm_bnd (R0 p) fun _ _ _ _ _ p => R0 p) (sm_ok hp)
  case paths => exact sm_bnd (R0 hp) fun _ _ _ _ _ p => R0 p
  case more acc => exact I (sm_bnd (R1 hp) fun _ _ _ _ _ p => R0 p) (sm_ok hp)
  case maybe w => exact I (sm_bnd (R1 hp) fun _ _ _ _ _ p => sm_ok p) (sm_ok hp)
  case item => exact sm_bnd (R0 hp) fun _ _ _ _ _ p => sm_ite (fun e => by rw [p.wrd _ e]) (sm_ok p) (Mw p fun _ _ _ _ p => sm_name p fun _ _ _ _ _ p => sm_ok p)
  case its acc => exact I (sm_bnd (R1 hp) fun _ _ _ _ _ p => R0 p) (sm_ok hp)
  case sorts => exact I (sm_tl hp fun _ _ p1 => Mw p1 fun _ _ _ _ p => R0 p) (sm_ok hp)
  case sortL acc =>
   refine sm_bnd (R0 hp) fun s1 v a b h1 p => ?_
   obtain ⟨s2, h2, p2⟩ := p.ite (p := (wrd wASC a || wrd wDESC a) = true) (q := (wrd wASC b || wrd wDESC b) = true) fun e => by rw [p.wrd _ e, p.wrd _ e]
   refine Sm.lift h2 (Is p2 (sm_rect H p2 fun e => by rw [p.wrd _ (ffs h2 e)]) (sm_okv p2 fun e => by rw [p.wrd _ (ffs h2 e)]))
  case rows kind =>
   obtain ⟨s1, h1, p1⟩ := hp.ite (p := wrd wDISTINCT n = true) (q := wrd wDISTINCT n = true) fun _ => Iff.rfl
   exact Sm.lift h1 (sm_bnd (R0 p1) fun _ _ _ _ _ p => sm_bnd (R0 p) fun _ _ _ _ _ p => sm_bnd (R0 p) fun _ _ _ _ _ p => sm_bnd (R0 p) fun _ _ _ _ _ p => sm_bnd (R0 p) fun _ _ _ _ _ p => sm_ok p)
  case setL kind acc =>
   exact sm_name hp fun _ x _ _ _ p => Is p (sm_tl p fun _ _ p1 => sm_key p1 fun _ _ _ _ _ p => Is p (R1 p) (sm_ok p)) (Ms p fun _ _ _ _ p => sm_key p fun _ _ _ _ _ p => I (Ms p fun _ _ _ _ p => sm_bnd (R0 p) fun _ _ _ _ _ p => Is p (R1 p) (sm_ok p)) (Is p (R1 p) (sm_ok p)))
  case vars acc => exact sm_name hp fun _ x _ _ _ p => Is p (R1 p) (sm_ok p)
  case clause w =>
   exact I (sm_bnd (R0 hp) fun _ _ _ _ _ p => sm_bnd (R0 p) fun _ _ _ _ _ p => sm_ok p) (I (sm_bnd (R0 hp) fun _ _ _ _ _ p => Mw p fun _ _ _ _ p => sm_name p fun _ _ _ _ _ p => sm_ok p) (I (sm_bnd (R0 hp) fun _ _ _ _ _ p => sm_bnd (R0 p) fun _ _ _ _ _ p => sm_ok p) (I (R0 hp) (I (sm_bnd (R0 hp) fun _ _ _ _ _ p => sm_ok p) (I (sm_bnd (R0 hp) fun _ _ _ _ _ p => sm_ok p) (I (sm_bnd (R0 hp) fun _ _ _ _ _ p => sm_ok p) (I (sm_bnd (R0 hp) fun _ _ _ _ _ p => sm_ok p) (I (sm_bnd (R0 hp) fun _ _ _ _ _ p => sm_ok p) (sm_must hp (fun _ => rfl) fun _ _ _ _ p => sm_bnd (R0 p) fun _ _ _ _ _ p => sm_ok p)))))))))
  case stmt acc => exact I (sm_ok hp) (I (sm_bnd (R1 hp) fun _ _ _ _ _ p => R0 p) (sm_bad hp))
theorem run_sm : ∀ f : Nat, SmAll (R := R) (R2 := R2) (run f)
  | 0 => fun _ _ _ _ _ _ _ _ h => by cases h
  | f + 1 => step_sm (run_sh f) (run_sm f)
theorem fault_first {g : G} {c : List Tok} {t : Tok} {R R2 : List Tok} (h : Run g (c ++ t :: R) (.bad (t :: R))) : Run g (c ++ t :: R2) (.bad (t :: R2)) := by
 obtain ⟨f, h⟩ := h
 have hp : Pf R R2 false (c ++ t :: R) (c ++ t :: R2) := ⟨c ++ [t], by simp, by simp, by simp⟩
 rcases run_sm f false g g _ _ hp (fun _ => rfl) _ h with h1 | ⟨-, d, h2, h3, h4⟩
 ·exact absurd h1 (by show ¬ (t :: R).length ≤ R.length; simp)
 ·have h5 : t :: R = d ++ R := h3
  have h6 : d = [t] := by
   have : [t] ++ R = d ++ R := h5
   exact (List.append_cancel_right this).symm
  subst h6
  exact ⟨f, h4⟩
end
end Go.Proofs.YteljlahcdipilaaGreat

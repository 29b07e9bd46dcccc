/- Parts Q39, Q40, Q41, Q75 of this seat (pruned, scripts that are alike kept once as default arguments: q1, q2, ..). Conditions: each says its own. -/
import Derived.Test.YteljlahcdipilaaGreatF40
namespace Go.Proofs.YteljlahcdipilaaGreat
open Go.RowKit Go.Shelf
set_option linter.unusedSimpArgs false
set_option linter.unusedVariables false
set_option maxRecDepth 100000
theorem wt_and {m : V → Nat} {c n K : Nat} {l : List Tok} {s : List UInt8} {p : Prop} [Decidable p] {a b : O} (hK : K ≠ 6) (h1 : p → Phi l = 16 + 16 * s.length + Phi l.tail → Wt a m c n) (h2 : Wt b m c n) : Wt (if p ∧ isT K s l = true then a else b) m c n := by
 split
 ·rename_i h; exact h1 h.1 (phi_is hK h.2)
 ·exact h2
theorem wt_or {m : V → Nat} {c n K J : Nat} {l : List Tok} {s u : List UInt8} {a b : O} (hK : K ≠ 6) (hJ : J ≠ 6) (h1 : Phi l.tail + 16 ≤ Phi l → Wt a m c n) (h2 : Wt b m c n) : Wt (if (isT K s l || isT J u l) = true then a else b) m c n := by
 split
 ·rename_i h
  refine h1 ?_
  rcases Bool.or_eq_true_iff.1 h with h | h
  ·rw [phi_is hK h]; omega
  ·rw [phi_is hJ h]; omega
 ·exact h2
theorem wt_ite2 {m : V → Nat} {c n : Nat} {p : Prop} [Decidable p] {a b : O} (h1 : p → Wt a m c n) (h2 : ¬ p → Wt b m c n) : Wt (if p then a else b) m c n := by
 split
 ·rename_i h; exact h1 h
 ·rename_i h; exact h2 h
theorem Sq419947 {P : Prop} (h : P := by
 have z713009c := trivial
 exact Sq713009) : P := h
theorem Sq713009 {P : Prop} (h : P := by
 first
 |(
  guard_hyp z713009a
  first
  |(
   guard_hyp z893010d
   have h0 : pwT (nx l) ≠ 0 := fun e => h (.inr (.inl e))
   have hp := phi_nx (l := l) (pw_kind h0)
   have pt := phi_tl l.tail
   have ps : (strOf (nx l).t).size = (nx l).t.length := strOf_size _
   clear h)
  |(
   guard_hyp z893010a
   simp only [hc, if_false, Bool.false_eq_true]
   (try simp only [sigB, wrd])
   have pm := phi_may (l).tail.tail
   have pu := phi_tl (l))
  |(
   simp only [hc, if_false, Bool.false_eq_true]
   (try simp only [sigB, wrd])))
 |(
  guard_hyp z713009c
  first
  |(
   guard_hyp z419947a
   simp only [Go.Proofs.YteljlahcdipilaaGreat.step, sigB, wrd]
   have pm := phi_may l.tail
   have pt := phi_tl l)
  |(
   guard_hyp z419947b
   simp only [Go.Proofs.YteljlahcdipilaaGreat.step, sigB, wrd]
   have pt := phi_tl l)
  |(
   guard_hyp z419947c
   have hp := phi_nx (l := l) (by rw [h2.1]; decide)
   clear h h2)
  | skip)
 |(
  first
  |(
   guard_hyp z893010a
   simp only [hc, if_true]
   (try simp only [sigB, wrd])
   have pm := phi_may (l.tail).tail.tail
   have pu := phi_tl (l.tail))
  | (guard_hyp z893010d)
  |(
   simp only [hc, if_true]
   (try simp only [sigB, wrd])))
 repeat' (first | refine wt_bnd (ih _ _) (fun v r hv => ?_) | refine wt_must (by decide) (fun hp => ?_) | refine wt_key (fun s hp => ?_) | refine wt_name (fun s hp => ?_) | refine wt_is (by decide) (fun hp => ?_) ?_ | refine wt_kind (by decide) (fun hp => ?_) ?_ | refine wt_and (by decide) (fun h hp => ?_) ?_ | refine wt_or (by decide) (by decide) (fun hp => ?_) ?_ | exact wt_bad | refine wt_ite2 (fun h => ?_) (fun h => ?_))
 all_goals (first | (refine wt_ok ?_; (try have pn := nm_le v.ex); (try simp only [wG, inG, slG, V.ex, V.exs, V.strs, V.node, V.edge, V.path, V.paths, V.item, V.items, V.sorts, V.sets, V.clause, V.clauses, wt_mn, wt_me, wt_mv, wt_map, wt_e, wtXs_cons, wtXs_nil, wtS_nil, wtS_snoc, wtXs_snoc, sz0, wtNp, wtEp, wtPt, wtIt, wtSo, wtSi, wtCl, bareC, List.map_append, List.map_cons, List.map_nil, List.sum_append, List.sum_cons, List.sum_nil, List.length_cons, List.length_nil, strOf_size] at *); omega) | (exact fun v9 r9 e9 => by have h2 := ih _ _ v9 r9 e9; (try simp only [wG, inG, slG, V.ex, V.exs, V.strs, V.node, V.edge, V.path, V.paths, V.item, V.items, V.sorts, V.sets, V.clause, V.clauses, wt_mn, wt_me, wt_mv, wt_map, wt_e, wtXs_cons, wtXs_nil, wtS_nil, wtS_snoc, wtXs_snoc, sz0, wtNp, wtEp, wtPt, wtIt, wtSo, wtSi, wtCl, bareC, List.map_append, List.map_cons, List.map_nil, List.sum_append, List.sum_cons, List.sum_nil, List.length_cons, List.length_nil, strOf_size] at *); omega))) : P := h
set_option maxHeartbeats 2000000 in
theorem w_expr {rec : G → List Tok → O} (ih : ∀ g l, Wt (rec g l) (wG g) (slG g) (inG g + Phi l)) (least : Nat) (l : List Tok) : Wt (Go.Proofs.YteljlahcdipilaaGreat.step rec (.expr least) l) (wG (.expr least)) (slG (.expr least)) (inG (.expr least) + Phi l) := by
 have z419947b := trivial
 exact Sq419947
set_option maxHeartbeats 2000000 in
theorem w_unary {rec : G → List Tok → O} (ih : ∀ g l, Wt (rec g l) (wG g) (slG g) (inG g + Phi l)) (least : Nat) (l : List Tok) : Wt (Go.Proofs.YteljlahcdipilaaGreat.step rec (.unary least) l) (wG (.unary least)) (slG (.unary least)) (inG (.unary least) + Phi l) := by
 have z419947b := trivial
 exact Sq419947
set_option maxHeartbeats 2000000 in
theorem w_post {rec : G → List Tok → O} (ih : ∀ g l, Wt (rec g l) (wG g) (slG g) (inG g + Phi l)) (t : Ex) (l : List Tok) : Wt (Go.Proofs.YteljlahcdipilaaGreat.step rec (.post t) l) (wG (.post t)) (slG (.post t)) (inG (.post t) + Phi l) := by
 have z419947b := trivial
 exact Sq419947
set_option maxHeartbeats 2000000 in
theorem w_atom {rec : G → List Tok → O} (ih : ∀ g l, Wt (rec g l) (wG g) (slG g) (inG g + Phi l)) (l : List Tok) : Wt (Go.Proofs.YteljlahcdipilaaGreat.step rec (.atom ) l) (wG (.atom )) (slG (.atom )) (inG (.atom ) + Phi l) := by
 have z419947b := trivial
 exact Sq419947
set_option maxHeartbeats 2000000 in
theorem w_list {rec : G → List Tok → O} (ih : ∀ g l, Wt (rec g l) (wG g) (slG g) (inG g + Phi l)) (stop : List UInt8) (l : List Tok) : Wt (Go.Proofs.YteljlahcdipilaaGreat.step rec (.list stop) l) (wG (.list stop)) (slG (.list stop)) (inG (.list stop) + Phi l) := by
 have z419947b := trivial
 exact Sq419947
set_option maxHeartbeats 2000000 in
theorem w_items {rec : G → List Tok → O} (ih : ∀ g l, Wt (rec g l) (wG g) (slG g) (inG g + Phi l)) (stop : List UInt8) (acc : List Ex) (l : List Tok) : Wt (Go.Proofs.YteljlahcdipilaaGreat.step rec (.items stop acc) l) (wG (.items stop acc)) (slG (.items stop acc)) (inG (.items stop acc) + Phi l) := by
 have z419947b := trivial
 exact Sq419947
set_option maxHeartbeats 2000000 in
theorem w_props {rec : G → List Tok → O} (ih : ∀ g l, Wt (rec g l) (wG g) (slG g) (inG g + Phi l)) (l : List Tok) : Wt (Go.Proofs.YteljlahcdipilaaGreat.step rec (.props ) l) (wG (.props )) (slG (.props )) (inG (.props ) + Phi l) := by
 have z419947b := trivial
 exact Sq419947
set_option maxHeartbeats 2000000 in
theorem w_pairs {rec : G → List Tok → O} (ih : ∀ g l, Wt (rec g l) (wG g) (slG g) (inG g + Phi l)) (ks : List ByteArray) (vs : List Ex) (l : List Tok) : Wt (Go.Proofs.YteljlahcdipilaaGreat.step rec (.pairs ks vs) l) (wG (.pairs ks vs)) (slG (.pairs ks vs)) (inG (.pairs ks vs) + Phi l) := by
 have z419947b := trivial
 exact Sq419947
set_option maxHeartbeats 2000000 in
theorem w_labels {rec : G → List Tok → O} (ih : ∀ g l, Wt (rec g l) (wG g) (slG g) (inG g + Phi l)) (acc : List ByteArray) (l : List Tok) : Wt (Go.Proofs.YteljlahcdipilaaGreat.step rec (.labels acc) l) (wG (.labels acc)) (slG (.labels acc)) (inG (.labels acc) + Phi l) := by
 have z419947b := trivial
 exact Sq419947
set_option maxHeartbeats 2000000 in
theorem w_node {rec : G → List Tok → O} (ih : ∀ g l, Wt (rec g l) (wG g) (slG g) (inG g + Phi l)) (l : List Tok) : Wt (Go.Proofs.YteljlahcdipilaaGreat.step rec (.node ) l) (wG (.node )) (slG (.node )) (inG (.node ) + Phi l) := by
 have z419947a := trivial
 exact Sq419947
set_option maxHeartbeats 2000000 in
theorem w_path {rec : G → List Tok → O} (ih : ∀ g l, Wt (rec g l) (wG g) (slG g) (inG g + Phi l)) (l : List Tok) : Wt (Go.Proofs.YteljlahcdipilaaGreat.step rec (.path ) l) (wG (.path )) (slG (.path )) (inG (.path ) + Phi l) := by
 have z419947b := trivial
 exact Sq419947
set_option maxHeartbeats 2000000 in
theorem w_segs {rec : G → List Tok → O} (ih : ∀ g l, Wt (rec g l) (wG g) (slG g) (inG g + Phi l)) (ns : List Npt) (es : List Ept) (l : List Tok) : Wt (Go.Proofs.YteljlahcdipilaaGreat.step rec (.segs ns es) l) (wG (.segs ns es)) (slG (.segs ns es)) (inG (.segs ns es) + Phi l) := by
 have z419947b := trivial
 exact Sq419947
set_option maxHeartbeats 2000000 in
theorem w_paths {rec : G → List Tok → O} (ih : ∀ g l, Wt (rec g l) (wG g) (slG g) (inG g + Phi l)) (l : List Tok) : Wt (Go.Proofs.YteljlahcdipilaaGreat.step rec (.paths ) l) (wG (.paths )) (slG (.paths )) (inG (.paths ) + Phi l) := by
 have z419947b := trivial
 exact Sq419947
set_option maxHeartbeats 2000000 in
theorem w_more {rec : G → List Tok → O} (ih : ∀ g l, Wt (rec g l) (wG g) (slG g) (inG g + Phi l)) (acc : List Ptt) (l : List Tok) : Wt (Go.Proofs.YteljlahcdipilaaGreat.step rec (.more acc) l) (wG (.more acc)) (slG (.more acc)) (inG (.more acc) + Phi l) := by
 have z419947b := trivial
 exact Sq419947
set_option maxHeartbeats 2000000 in
theorem w_maybe {rec : G → List Tok → O} (ih : ∀ g l, Wt (rec g l) (wG g) (slG g) (inG g + Phi l)) (w : List UInt8) (l : List Tok) : Wt (Go.Proofs.YteljlahcdipilaaGreat.step rec (.maybe w) l) (wG (.maybe w)) (slG (.maybe w)) (inG (.maybe w) + Phi l) := by
 have z419947b := trivial
 exact Sq419947
set_option maxHeartbeats 2000000 in
theorem w_item {rec : G → List Tok → O} (ih : ∀ g l, Wt (rec g l) (wG g) (slG g) (inG g + Phi l)) (l : List Tok) : Wt (Go.Proofs.YteljlahcdipilaaGreat.step rec (.item ) l) (wG (.item )) (slG (.item )) (inG (.item ) + Phi l) := by
 have z419947b := trivial
 exact Sq419947
set_option maxHeartbeats 2000000 in
theorem w_its {rec : G → List Tok → O} (ih : ∀ g l, Wt (rec g l) (wG g) (slG g) (inG g + Phi l)) (acc : List Itt) (l : List Tok) : Wt (Go.Proofs.YteljlahcdipilaaGreat.step rec (.its acc) l) (wG (.its acc)) (slG (.its acc)) (inG (.its acc) + Phi l) := by
 have z419947b := trivial
 exact Sq419947
set_option maxHeartbeats 2000000 in
theorem w_sorts {rec : G → List Tok → O} (ih : ∀ g l, Wt (rec g l) (wG g) (slG g) (inG g + Phi l)) (l : List Tok) : Wt (Go.Proofs.YteljlahcdipilaaGreat.step rec (.sorts ) l) (wG (.sorts )) (slG (.sorts )) (inG (.sorts ) + Phi l) := by
 have z419947b := trivial
 exact Sq419947
set_option maxHeartbeats 2000000 in
theorem w_vars {rec : G → List Tok → O} (ih : ∀ g l, Wt (rec g l) (wG g) (slG g) (inG g + Phi l)) (acc : List ByteArray) (l : List Tok) : Wt (Go.Proofs.YteljlahcdipilaaGreat.step rec (.vars acc) l) (wG (.vars acc)) (slG (.vars acc)) (inG (.vars acc) + Phi l) := by
 have z419947b := trivial
 exact Sq419947
set_option maxHeartbeats 2000000 in
theorem w_edgeP {rec : G → List Tok → O} (ih : ∀ g l, Wt (rec g l) (wG g) (slG g) (inG g + Phi l)) (d : Int) (a : ByteArray) (b : ByteArray) (l : List Tok) : Wt (Go.Proofs.YteljlahcdipilaaGreat.step rec (.edgeP d a b) l) (wG (.edgeP d a b)) (slG (.edgeP d a b)) (inG (.edgeP d a b) + Phi l) := by
 have z419947b := trivial
 exact Sq419947
set_option maxHeartbeats 2000000 in
theorem w_edgeE {rec : G → List Tok → O} (ih : ∀ g l, Wt (rec g l) (wG g) (slG g) (inG g + Phi l)) (d : Int) (a : ByteArray) (b : ByteArray) (ks : List ByteArray) (vs : List Ex) (l : List Tok) : Wt (Go.Proofs.YteljlahcdipilaaGreat.step rec (.edgeE d a b ks vs) l) (wG (.edgeE d a b ks vs)) (slG (.edgeE d a b ks vs)) (inG (.edgeE d a b ks vs) + Phi l) := by
 have z419947b := trivial
 exact Sq419947
theorem Sq893010 {P : Prop} (h : P := by
 first
 |(
  guard_hyp z893010c
  simp only [Go.Proofs.YteljlahcdipilaaGreat.step]
  refine wt_bnd (ih _ _) (fun v r hv => ?_)
  have pt := phi_tl r
  by_cases hc : (wrd wASC r || wrd wDESC r) = true)
 |(
  guard_hyp z893010b
  simp only [Go.Proofs.YteljlahcdipilaaGreat.step]
  have pt := phi_tl l
  by_cases hc : wrd wDISTINCT l = true)
 |(
  guard_hyp z893010d
  simp only [Go.Proofs.YteljlahcdipilaaGreat.step, sigB, wrd]
  refine wt_ite2 (fun h => ?_) (fun h => ?_))
 |(
  simp only [Go.Proofs.YteljlahcdipilaaGreat.step]
  have pt := phi_tl l
  by_cases hc : sigB 60 l = true)
 ·exact Sq713009
 ·have z713009a := trivial
  exact Sq713009) : P := h
set_option maxHeartbeats 2000000 in
theorem w_loop {rec : G → List Tok → O} (ih : ∀ g l, Wt (rec g l) (wG g) (slG g) (inG g + Phi l)) (least most : Nat) (t : Ex) (l : List Tok) : Wt (Go.Proofs.YteljlahcdipilaaGreat.step rec (.loop least most t) l) (wG (.loop least most t)) (slG (.loop least most t)) (inG (.loop least most t) + Phi l) := by
 have z893010d := trivial
 exact Sq893010
set_option maxHeartbeats 2000000 in
theorem w_edge {rec : G → List Tok → O} (ih : ∀ g l, Wt (rec g l) (wG g) (slG g) (inG g + Phi l)) (l : List Tok) : Wt (Go.Proofs.YteljlahcdipilaaGreat.step rec (.edge) l) (wG (.edge)) (slG (.edge)) (inG (.edge) + Phi l) := by
 have z893010a := trivial
 exact Sq893010
set_option maxHeartbeats 2000000 in
theorem w_sortL {rec : G → List Tok → O} (ih : ∀ g l, Wt (rec g l) (wG g) (slG g) (inG g + Phi l)) (acc : List Sot) (l : List Tok) : Wt (Go.Proofs.YteljlahcdipilaaGreat.step rec (.sortL acc) l) (wG (.sortL acc)) (slG (.sortL acc)) (inG (.sortL acc) + Phi l) := by
 have z893010c := trivial
 exact Sq893010
set_option maxHeartbeats 2000000 in
theorem w_rows {rec : G → List Tok → O} (ih : ∀ g l, Wt (rec g l) (wG g) (slG g) (inG g + Phi l)) (kind : Int) (l : List Tok) : Wt (Go.Proofs.YteljlahcdipilaaGreat.step rec (.rows kind) l) (wG (.rows kind)) (slG (.rows kind)) (inG (.rows kind) + Phi l) := by
 have z893010b := trivial
 exact Sq893010
set_option maxHeartbeats 2000000 in
theorem w_setL {rec : G → List Tok → O} (ih : ∀ g l, Wt (rec g l) (wG g) (slG g) (inG g + Phi l)) (kind : Int) (acc : List Sit) (l : List Tok) : Wt (Go.Proofs.YteljlahcdipilaaGreat.step rec (.setL kind acc) l) (wG (.setL kind acc)) (slG (.setL kind acc)) (inG (.setL kind acc) + Phi l) := by
 have z419947b := trivial
 exact Sq419947
set_option maxHeartbeats 2000000 in
theorem w_clause {rec : G → List Tok → O} (ih : ∀ g l, Wt (rec g l) (wG g) (slG g) (inG g + Phi l)) (w : List UInt8) (l : List Tok) : Wt (Go.Proofs.YteljlahcdipilaaGreat.step rec (.clause w) l) (wG (.clause w)) (slG (.clause w)) (inG (.clause w) + Phi l) := by
 have z419947b := trivial
 exact Sq419947
set_option maxHeartbeats 2000000 in
theorem w_stmt {rec : G → List Tok → O} (ih : ∀ g l, Wt (rec g l) (wG g) (slG g) (inG g + Phi l)) (acc : List Clt) (l : List Tok) : Wt (Go.Proofs.YteljlahcdipilaaGreat.step rec (.stmt acc) l) (wG (.stmt acc)) (slG (.stmt acc)) (inG (.stmt acc) + Phi l) := by
 simp only [Go.Proofs.YteljlahcdipilaaGreat.step, sigB, wrd]
 refine wt_ite2 (fun h => ?_) (fun h => ?_)
 ·exact Sq419947
 ·refine wt_ite2 (fun h2 => ?_) (fun h2 => ?_)
  ·have z419947c := trivial
   exact Sq419947
  ·exact wt_bad
theorem w_step {rec : G → List Tok → O} (ih : ∀ g l, Wt (rec g l) (wG g) (slG g) (inG g + Phi l)) (g : G) (l : List Tok) : Wt (Go.Proofs.YteljlahcdipilaaGreat.step rec g l) (wG g) (slG g) (inG g + Phi l) := by
 cases g with
 | expr n => exact w_expr ih n l
 | loop n m t => exact w_loop ih n m t l
 | unary n => exact w_unary ih n l
 | post t => exact w_post ih t l
 | atom => exact w_atom ih l
 | list s => exact w_list ih s l
 | items s a => exact w_items ih s a l
 | props => exact w_props ih l
 | pairs k v => exact w_pairs ih k v l
 | labels a => exact w_labels ih a l
 | node => exact w_node ih l
 | edge => exact w_edge ih l
 | edgeP d a b => exact w_edgeP ih d a b l
 | edgeE d a b k v => exact w_edgeE ih d a b k v l
 | path => exact w_path ih l
 | segs n e => exact w_segs ih n e l
 | paths => exact w_paths ih l
 | more a => exact w_more ih a l
 | maybe w => exact w_maybe ih w l
 | item => exact w_item ih l
 | its a => exact w_its ih a l
 | sorts => exact w_sorts ih l
 | sortL a => exact w_sortL ih a l
 | rows k => exact w_rows ih k l
 | setL k a => exact w_setL ih k a l
 | vars a => exact w_vars ih a l
 | clause w => exact w_clause ih w l
 | stmt a => exact w_stmt ih a l
theorem run_wt : ∀ (f : Nat) (g : G) (l : List Tok), Wt (run f g l) (wG g) (slG g) (inG g + Phi l)
  | 0, _, _ => fun _ _ e => by cases e
  | f + 1, g, l => w_step (run_wt f) g l
theorem stmt_wt {f : Nat} {l : List Tok} {v : V} {r : List Tok} (h : run f (.stmt []) l = some (.ok v r)) : wtSm ⟨v.clauses⟩ ≤ 1 + Phi l := by
 have h2 := run_wt f (.stmt []) l v r h
 have e1 : wG (.stmt []) v = (v.clauses.map wtCl).sum := rfl
 have e2 : inG (.stmt []) = 0 := rfl
 rw [e1, e2] at h2
 show 1 + (v.clauses.map wtCl).sum ≤ _
 omega
def exA : List UInt8 := [109, 97, 116, 99, 104, 32, 40, 110, 58, 65, 41, 45, 45, 62, 40, 109, 41, 32, 114, 101, 116, 117, 114, 110, 32, 110, 46, 107, 32, 43, 32, 49, 32, 97, 115, 32, 120]
def exB : List UInt8 := [77, 65, 84, 67, 72, 32, 40, 110, 32, 82, 69, 84, 85, 82, 78, 32, 110]
def toks : ScanR → List (Tok × Nat) | .ok l => l | .bad _ _ => []
def exLA : List (Tok × Nat) := toks (scanL exA)
def exLB : List (Tok × Nat) := toks (scanL exB)
theorem exA_scan : scanL exA = .ok exLA := by kernel_rfl
theorem exB_scan : scanL exB = .ok exLB := by kernel_rfl
def exVA : V := match run 60 (.stmt []) (rem exLA 0) with | some (.ok v _) => v | _ => .ss []
def okR : Option Pr → List Tok | some (.ok _ r) => r | some (.bad r) => r | none => []
theorem exA_run : run 60 (.stmt []) (rem exLA 0) = some (.ok exVA (okR (run 60 (.stmt []) (rem exLA 0)))) := by kernel_rfl
theorem exB_run : run 60 (.stmt []) (rem exLB 0) = some (.bad (okR (run 60 (.stmt []) (rem exLB 0)))) := by kernel_rfl
theorem exA_shape : ∃ c0 c1 p i, exVA.clauses = [c0, c1] ∧ c0.paths = [p] ∧ p.edges.length = 1 ∧ c1.items = [i] ∧ i.nm = ⟨#[120]⟩ := by
 refine ⟨exVA.clauses.headD (bareC 0), exVA.clauses.tail.headD (bareC 0), (exVA.clauses.headD (bareC 0)).paths.headD ⟨[], []⟩, (exVA.clauses.tail.headD (bareC 0)).items.headD ⟨emptyX, ⟨#[]⟩⟩, ?_, ?_, ?_, ?_, ?_⟩ <;> kernel_rfl
theorem exB_len : exLB.length = 6 := by kernel_rfl
theorem exB_rest : (okR (run 60 (.stmt []) (rem exLB 0))).length = 3 := by kernel_rfl
theorem exB_at : (exLB[3]?).map (·.2) = some 9 := by kernel_rfl
def ExA (w : World) : Prop := ∀ w0, Below w.heap.size w w0 → Calls Tryz.prog 11 #[.string ⟨#[109, 97, 116, 99, 104, 32, 40, 110, 58, 65, 41, 45, 45, 62, 40, 109, 41, 32, 114, 101, 116, 117, 114, 110, 32, 110, 46, 107, 32, 43, 32, 49, 32, 97, 115, 32, 120]⟩] w0 fun e w' => Below w0.heap.size w0 w' ∧ ∃ S cs, e = .returned (.tuple #[.agg (List.toArray cs), .int .i64 0, .int .i64 0]) ∧ HG (fun u => RSm u cs ⟨exVA.clauses⟩) S w'
def ExB (w : World) : Prop := ∀ w0, Below w.heap.size w w0 → Calls Tryz.prog 11 #[.string ⟨#[77, 65, 84, 67, 72, 32, 40, 110, 32, 82, 69, 84, 85, 82, 78, 32, 110]⟩] w0 fun e w' => Below w0.heap.size w0 w' ∧ e = .returned (.tuple #[.agg #[.slice none 0 0], .int .i64 9, .int .i64 1])
theorem sm_parts {u : World} {cs : List Value} (h : RSm u cs ⟨exVA.clauses⟩) : ∃ b off c pb po pc ec ib io ic ea, cs = [.slice (some ⟨b, off, none⟩) 2 c] ∧ u.cell? ⟨b, off + 1, none⟩ = some (.slice (some ⟨pb, po, none⟩) 1 pc) ∧ u.cell? ⟨pb, po + 1, none⟩ = some (.slice ea 1 ec) ∧
    u.cell? ⟨b, off + (22 + 14), none⟩ = some (.slice (some ⟨ib, io, none⟩) 1 ic) ∧ u.cell? ⟨ib, io + 10, none⟩ = some (.string ⟨#[120]⟩) := by
 obtain ⟨c0, c1, p, i, h1, h2, h3, h4, h5⟩ := exA_shape
 rw [h1] at h
 obtain ⟨a, c, rfl, -, hR⟩ := h
 obtain ⟨b, off, d0, rfl, -, -, q0, g0⟩ := hR 0 c0 rfl
 obtain ⟨b', off', d1, e1, -, -, q1, g1⟩ := hR 1 c1 rfl
 injection e1 with e1; injection e1 with e1 e2 e3; subst e1 e2
 obtain ⟨a1, k1, a2, k2, xe, a5, k5, a7, k7, a8, k8, a9, k9, a10, k10, a11, k11, rfl, -, -, P0, -⟩ := g0
 obtain ⟨a1', k1', a2', k2', xe', a5', k5', a7', k7', a8', k8', a9', k9', a10', k10', a11', k11', rfl, -, -, -, -, -, hE, -, I0, -⟩ := g1
 obtain ⟨op, nm, vk, vb, vi, vs, la, ln, lc, ka, kn, kc, na, nn, nc, xa, xn, xc, rfl⟩ := isX_ten hE
 rw [h2] at P0
 rw [h4] at I0
 obtain ⟨pb, po, pd, rfl, -, -, q2, g2⟩ := P0 0 p rfl
 obtain ⟨na', nc', ea, ec, rfl, -⟩ := g2
 obtain ⟨ib, io, id, rfl, -, -, q3, g3⟩ := I0 0 i rfl
 obtain ⟨xe2, rfl, hE2⟩ := g3
 obtain ⟨op, nm, vk, vb, vi, vs, la, ln, lc, ka, kn, kc, na, nn, nc, xa, xn, xc, rfl⟩ := isX_ten hE2
 have r0 := q0 1 _ rfl
 have r1 := q1 14 _ rfl
 have r2 := q2 1 _ rfl
 have r3 := q3 10 _ rfl
 rw [h2] at r0
 rw [h4] at r1
 rw [h3] at r2
 rw [h5] at r3
 simp only [Nat.zero_mul, Nat.zero_add, Nat.one_mul] at r0 r1 r2 r3
 exact ⟨b, off, c, pb, po, k1, ec, ib, io, k5', ea, rfl, r0, r2, r1, r3⟩
set_option maxHeartbeats 8000000 in
theorem pworks_any (w : World) (HA : ExA w) (HB : ExB w) : Calls Tryz.prog 8 #[] w fun e w' => e = .returned (.bool true) ∧ Below w.heap.size w w' := by
 have CA := Lib.hid HA
 have CB := Lib.hid HB
 clear HA HB
 go_enter Tryz.func8, Tryz.ntmps8
 go_wp2_with (go_at_call 11; refine Stand.out ?_)
 refine Stand.mk ?_
 refine (CA.out w (Below.refl _ _)).mono ?_
 rintro e u1 ⟨hb1, S, cs, rfl, hX⟩
 obtain ⟨b, off, c, pb, po, pc, ec, ib, io, ic, ea, rfl, -⟩ := sm_parts hX.is
 have HX := Lib.hid hX
 have zb1 := hb1.size
 have BE1 := Lib.hid hb1
 clear hX hb1
 have hTh := block_there (Block.new u1 [.slice none 0 0] 35) 0 1 (Nat.le_refl 1)
 go_upto_region 2 with (refine wpList_store_mid rfl 35 _ _ rfl u1.heap.size 0 #[.slice (some ⟨b, off, none⟩) 2 c] rfl rfl hTh (by kernel_rfl) (by simp [Value.oneCell']) ?_)
 obtain ⟨u2, hu2⟩ : ∃ u, (u1.alloc (.cells #[.slice none 0 0] 35)).setCells u1.heap.size 0 ((#[.slice (some ⟨b, off, none⟩) 2 c] : Array Value).toList) = u := ⟨_, rfl⟩
 rw [hu2]
 have z2 : u2.heap.size = u1.heap.size + 1 := by rw [← hu2, setCells_sz]; simp
 have b2 : Below u1.heap.size u1 u2 := by rw [← hu2]; exact below_setCells (Nat.le_refl _) _ 0 _ ((Below.refl _ _).alloc (Nat.le_refl _) _)
 have B2 := Lib.hid (show Block u2 u1.heap.size [.slice (some ⟨b, off, none⟩) 2 c] 35 from by rw [← hu2]; exact (Block.new u1 [.slice none 0 0] 35).all _ rfl)
 have HX2 := Lib.hid (HX.out.below b2)
 have BE2 := Lib.hid (BE1.out.trans (b2.mono zb1))
 clear hu2 hTh b2
 go_wp2_with (go_at_call 11; refine Stand.out ?_)
 refine Stand.mk ?_
 refine (CB.out u2 BE2.out).mono ?_
 rintro e u3 ⟨hb3, rfl⟩
 have zb3 := hb3.size
 have hTh := block_there (Block.new u3 [.slice none 0 0] 35) 0 1 (Nat.le_refl 1)
 have B3 := Lib.hid (B2.out.below hb3 B2.out.lt)
 have HX3 := Lib.hid (HX2.out.below hb3)
 have BE3 := Lib.hid (BE2.out.trans (hb3.mono BE2.out.size))
 clear hb3
 go_upto_region 3 with (refine wpList_store_mid rfl 35 _ _ rfl u3.heap.size 0 #[.slice none 0 0] rfl rfl hTh (by kernel_rfl) (by simp [Value.oneCell']) ?_)
 obtain ⟨u4, hu4⟩ : ∃ u, (u3.alloc (.cells #[.slice none 0 0] 35)).setCells u3.heap.size 0 ((#[.slice none 0 0] : Array Value).toList) = u := ⟨_, rfl⟩
 rw [hu4]
 have b4 : Below u3.heap.size u3 u4 := by rw [← hu4]; exact below_setCells (Nat.le_refl _) _ 0 _ ((Below.refl _ _).alloc (Nat.le_refl _) _)
 have B4 := Lib.hid (B3.out.below b4 B3.out.lt)
 have HX4 := Lib.hid (HX3.out.below b4)
 have BE4 := Lib.hid (BE3.out.trans (b4.mono BE3.out.size))
 clear hu4 hTh b4
 obtain ⟨b', off', c', pb, po, pc, ec, ib, io, ic, ea, e1, w0, w1, w2, w3⟩ := sm_parts HX4.out.is
 injection e1 with e1
 injection e1 with e1 e2 e3
 injection e1 with e1
 injection e1 with e1 e4
 subst e1 e4 e3
 clear e2
 have v0 := B4.out.cell (i := 0) rfl
 go_wp2_with fail
 go_ret
 exact ⟨rfl, BE4.out⟩
def AnsE (o : (G → List Tok → O) → O) : Prop := ∃ x, Ans o x
theorem AnsE.some {x : Pr} : AnsE (fun _ => some x) := ⟨x, Ans.ok⟩
theorem AnsE.rec {g : G} {l : List Tok} (h : ∃ x, Run g l x) : AnsE (fun c => c g l) := by obtain ⟨x, h⟩ := h; exact ⟨x, Ans.rec h⟩
theorem AnsE.bnd {o : (G → List Tok → O) → O} {k : (G → List Tok → O) → V → List Tok → O} (h1 : AnsE o) (h2 : ∀ v r, Ans o (.ok v r) → AnsE (fun c => k c v r)) : AnsE (fun c => bnd (o c) (k c)) := by
 obtain ⟨x, hx⟩ := h1
 cases x with
 | ok v r => obtain ⟨y, hy⟩ := h2 v r hx; exact ⟨y, Ans.bnd hx hy⟩
 | bad r =>
  obtain ⟨f, hf⟩ := hx
  refine ⟨.bad r, f, fun n hn => ?_⟩
  show Go.Proofs.YteljlahcdipilaaGreat.bnd (o (run n)) (k (run n)) = _
  rw [hf n hn]; rfl
theorem AnsE.ite {p : Prop} [Decidable p] {a b : (G → List Tok → O) → O} (h1 : p → AnsE a) (h2 : ¬ p → AnsE b) : AnsE (fun c => if p then a c else b c) := by
 by_cases h : p
 ·simp only [if_pos h]; exact h1 h
 ·simp only [if_neg h]; exact h2 h
theorem AnsE.must {b : Bool} {l : List Tok} {k : (G → List Tok → O) → List Tok → O} (h : b = true → AnsE (fun c => k c l.tail)) : AnsE (fun c => must b l (k c)) := AnsE.ite (p := b = true) h fun _ => AnsE.some
theorem ne_of_k {l : List Tok} (h : (nx l).k ≠ 6) : l ≠ [] := fun e => by subst e; exact h rfl
theorem sgn_ne {c : UInt8} {l : List Tok} (h : sigB c l = true) : l ≠ [] := ne_of_k (by
  have h1 : (decide ((nx l).k = 5) && _) = true := h
  rw [Bool.and_eq_true, decide_eq_true_eq] at h1
  rw [h1.1]; decide)
theorem wrd_ne {w : List UInt8} {l : List Tok} (h : wrd w l = true) : l ≠ [] := ne_of_k (by
  have h1 : (decide ((nx l).k = 2) && _) = true := h
  rw [Bool.and_eq_true, decide_eq_true_eq] at h1
  rw [h1.1]; decide)
theorem tl_lt {l : List Tok} (h : l ≠ []) : l.tail.length < l.length := by
 cases l with
 | nil => exact absurd rfl h
 | cons t l => simp
theorem AnsE.key {l : List Tok} {k : (G → List Tok → O) → ByteArray → List Tok → O} (h : l ≠ [] → ∀ s, AnsE (fun c => k c s l.tail)) : AnsE (fun c => keyP l (k c)) := AnsE.ite (p := (nx l).k = 1 ∨ ((nx l).k = 4 ∧ (nx l).t ≠ [] ∧ (nx l).t.length ≤ 64)) (fun e => h (ne_of_k (by omega)) _) fun _ => AnsE.some
theorem AnsE.name {l : List Tok} {k : (G → List Tok → O) → ByteArray → List Tok → O} (h : l ≠ [] → ∀ s, AnsE (fun c => k c s l.tail)) : AnsE (fun c => nameP l (k c)) := AnsE.ite (p := (nx l).k = 1) (fun e => h (ne_of_k (by omega)) _) fun _ => AnsE.some
theorem run_rest {g : G} {l r : List Tok} {v : V} (h : Ans (fun c => c g l) (.ok v r)) : r.length ≤ l.length := by
 obtain ⟨f, h⟩ := h
 exact run_sh f g l _ (h f (Nat.le_refl _))
theorem edge_lt {l r : List Tok} {v : V} (h : Ans (fun c => c .edge l) (.ok v r)) : r.length < l.length := by
 obtain ⟨f, h⟩ := h
 have h1 := h (f + 1) (by omega)
 have h2 : Go.Proofs.YteljlahcdipilaaGreat.step (run f) .edge l = some (.ok v r) := h1
 simp only [Go.Proofs.YteljlahcdipilaaGreat.step] at h2
 have hle := if_le (sigB 60 l = true) l
 generalize (if sigB 60 l = true then l.tail else l) = m at h2 hle
 unfold must at h2
 by_cases h45 : sigB 45 m = true
 ·rw [if_pos h45] at h2
  have hm := tl_lt (sgn_ne h45)
  have hall : ∀ o : O, Sh o m.tail → o = some (.ok v r) → r.length ≤ m.tail.length := fun o ho he => ho _ he
  have := hall _ ?_ h2
  ·omega
  ·have h' : ∀ {g : G} {q : List Tok}, q.length ≤ m.tail.length → Sh (run f g q) m.tail := fun hm x hx => Nat.le_trans (run_sh f _ _ x hx) hm
   dsimp only
   repeat (first | refine h' ?_ | refine sh_bad ?_ | refine sh_key ?_ (fun _ _ _ => ?_) | refine sh_ite ?_ ?_ | exact Nat.le_refl _ | assumption | refine tl_of ?_ | refine may_of ?_)
 ·rw [if_neg h45] at h2; cases h2
def rank : G → Nat
  | .unary _ => 2 | .expr _ => 3 | .items _ _ => 4 | .list _ => 5 | .atom => 1 | .edgeP _ _ _ => 1 | .item => 4 | .sortL _ => 4 | .rows _ => 5 | .segs _ _ => 1 | .path => 2 | .paths => 3 | .clause _ => 6 | _ => 0
theorem rank_le (g : G) : rank g ≤ 7 := by cases g <;> simp [rank]
theorem tot : ∀ (n : Nat) (g : G) (l : List Tok), l.length * 8 + rank g ≤ n → ∃ x, Run g l x := by
  intro n
  induction n using Nat.strongRecOn with
  | _ n ih =>
    intro g l hn
    -- calls at a shorter list; at one as long, of less rank
    have S : ∀ {g' : G} {m : List Tok}, m.length < l.length → AnsE (fun c => c g' m) := fun {g' m} hm => AnsE.rec (ih (m.length * 8 + rank g') (by have : rank g' ≤ 7 := rank_le g'; omega) g' m (Nat.le_refl _))
    have L : ∀ {g' : G} {m : List Tok}, m.length ≤ l.length → rank g' < rank g → AnsE (fun c => c g' m) := fun {g' m} hm hr => AnsE.rec (ih (m.length * 8 + rank g') (by omega) g' m (Nat.le_refl _))
    have fin : AnsE (fun c => Go.Proofs.YteljlahcdipilaaGreat.step c g l) → ∃ x, Run g l x := fun h => by obtain ⟨x, h⟩ := h; exact ⟨x, Run.of h⟩
    refine fin ?_
    have T : ∀ {m : List Tok}, m ≠ [] → m.length ≤ l.length → m.tail.length < l.length := fun h1 h2 => Nat.lt_of_lt_of_le (tl_lt h1) h2
    have Tl : ∀ {m : List Tok}, m.length < l.length → m.tail.length < l.length := fun h => Nat.lt_of_le_of_lt (tl_le _) h
    have TL : ∀ {m : List Tok}, m.length ≤ l.length → m.tail.length ≤ l.length := fun h => Nat.le_trans (tl_le _) h
    have kne : ∀ {k : Nat}, k ≠ 6 → (nx l).k = k → l ≠ [] := fun h e => ne_of_k (by omega)
    cases g
    case expr least => exact AnsE.bnd (L (Nat.le_refl _) (by decide : 2 < 3)) fun v r h => L (run_rest h) (by decide : 0 < 3)
    case loop least most left =>
      simp only [Go.Proofs.YteljlahcdipilaaGreat.step]
      refine AnsE.ite (fun _ => AnsE.some) fun h0 => ?_
      have hl : l ≠ [] := fun e => h0 (by subst e; exact .inr (.inl rfl))
      have h1 := T hl (Nat.le_refl _)
      refine AnsE.ite (fun _ => AnsE.ite (fun _ => AnsE.must fun _ => S (Tl (Tl h1))) fun _ => AnsE.must fun _ => S (Tl h1)) fun _ => AnsE.bnd (S h1) fun v r h => S (Nat.lt_of_le_of_lt (run_rest h) h1)
    case unary least =>
      simp only [Go.Proofs.YteljlahcdipilaaGreat.step]
      refine AnsE.ite (fun h => AnsE.bnd (S (T (wrd_ne h.2) (Nat.le_refl _))) fun _ _ _ => AnsE.some) fun _ => AnsE.ite (fun h => AnsE.bnd (S (T (sgn_ne h) (Nat.le_refl _))) fun _ _ _ => AnsE.some) fun _ => AnsE.bnd (L (Nat.le_refl _) (by decide : 1 < 2)) fun v r h => L (run_rest h) (by decide : 0 < 2)
    case post x =>
      simp only [Go.Proofs.YteljlahcdipilaaGreat.step]
      refine AnsE.ite (fun h => AnsE.key fun _ _ => S (Tl (T (sgn_ne h) (Nat.le_refl _)))) fun _ => AnsE.ite (fun h => ?_) fun _ => AnsE.ite (fun h => AnsE.key fun _ _ => S (Tl (T (sgn_ne h.2) (Nat.le_refl _)))) fun _ => AnsE.some
      have h1 := T (sgn_ne h) (Nat.le_refl _)
      exact AnsE.bnd (S h1) fun v r hr => AnsE.must fun _ => S (Tl (Nat.lt_of_le_of_lt (run_rest hr) h1))
    case atom =>
      simp only [Go.Proofs.YteljlahcdipilaaGreat.step]
      refine AnsE.ite (fun _ => AnsE.some) fun _ => AnsE.ite (fun _ => AnsE.some) fun _ => AnsE.ite (fun h1 => ?_) fun _ => AnsE.ite (fun _ => AnsE.some) fun _ => AnsE.ite (fun _ => AnsE.some) fun _ => AnsE.ite (fun _ => AnsE.name fun _ _ => AnsE.some) fun _ => AnsE.ite (fun h => ?_) fun _ => AnsE.ite (fun h => ?_) fun _ => AnsE.ite (fun _ => ?_) fun _ => AnsE.some
      · have h2 := T (kne (by decide) h1) (Nat.le_refl _)
        refine AnsE.ite (fun _ => AnsE.ite (fun _ => AnsE.ite (fun _ => AnsE.must fun _ => AnsE.some) fun _ => AnsE.bnd (S (Tl h2)) fun _ _ _ => AnsE.must fun _ => AnsE.some) fun _ => AnsE.bnd (S (Tl h2)) fun _ _ _ => AnsE.some) fun _ => AnsE.some
      · exact AnsE.bnd (S (T (sgn_ne h) (Nat.le_refl _))) fun _ _ _ => AnsE.must fun _ => AnsE.some
      · exact AnsE.bnd (S (T (sgn_ne h) (Nat.le_refl _))) fun _ _ _ => AnsE.some
      · exact AnsE.bnd (L (Nat.le_refl _) (by decide : 0 < 1)) fun _ _ _ => AnsE.some
    case list stop => simp only [Go.Proofs.YteljlahcdipilaaGreat.step]; exact AnsE.ite (fun _ => AnsE.some) fun _ => L (Nat.le_refl _) (by decide : 4 < 5)
    case items stop acc =>
      simp only [Go.Proofs.YteljlahcdipilaaGreat.step]
      exact AnsE.bnd (L (Nat.le_refl _) (by decide : 3 < 4)) fun v r h => AnsE.ite (fun h2 => S (T (sgn_ne h2) (run_rest h))) fun _ => AnsE.must fun _ => AnsE.some
    case props => simp only [Go.Proofs.YteljlahcdipilaaGreat.step]; exact AnsE.must fun h => AnsE.ite (fun _ => AnsE.some) fun _ => S (T (sgn_ne h) (Nat.le_refl _))
    case pairs ks vs =>
      simp only [Go.Proofs.YteljlahcdipilaaGreat.step]
      refine AnsE.key fun h _ => AnsE.must fun _ => ?_
      have h1 := Tl (T h (Nat.le_refl _))
      exact AnsE.bnd (S h1) fun v r hr => AnsE.ite (fun _ => S (Tl (Nat.lt_of_le_of_lt (run_rest hr) h1))) fun _ => AnsE.must fun _ => AnsE.some
    case labels acc => simp only [Go.Proofs.YteljlahcdipilaaGreat.step]; exact AnsE.ite (fun h => AnsE.key fun _ _ => S (Tl (T (sgn_ne h) (Nat.le_refl _)))) fun _ => AnsE.some
    case node =>
      simp only [Go.Proofs.YteljlahcdipilaaGreat.step]
      refine AnsE.must fun h => ?_
      have h1 := T (sgn_ne h) (Nat.le_refl _)
      have h2 := Nat.lt_of_le_of_lt (may_le l.tail) h1
      exact AnsE.bnd (S h2) fun v r hr => AnsE.ite (fun _ => AnsE.bnd (S (Nat.lt_of_le_of_lt (run_rest hr) h2)) fun _ _ _ => AnsE.must fun _ => AnsE.some) fun _ => AnsE.must fun _ => AnsE.some
    case edge =>
      simp only [Go.Proofs.YteljlahcdipilaaGreat.step]
      refine AnsE.must fun h => ?_
      have h1 := T (sgn_ne h) (if_le (sigB 60 l = true) l)
      have h2 := Nat.lt_of_le_of_lt (may_le (if sigB 60 l = true then l.tail else l).tail.tail) (Tl h1)
      exact AnsE.ite (fun _ => AnsE.ite (fun _ => AnsE.key fun _ _ => S (Tl (Tl h2))) fun _ => S h2) fun _ => S h1
    case edgeP d var ty =>
      simp only [Go.Proofs.YteljlahcdipilaaGreat.step]
      exact AnsE.ite (fun _ => AnsE.bnd (L (Nat.le_refl _) (by decide : 0 < 1)) fun v r h => AnsE.must fun h2 => S (T (sgn_ne h2) (run_rest h))) fun _ => AnsE.must fun h => S (T (sgn_ne h) (Nat.le_refl _))
    case edgeE d var ty ks vs => simp only [Go.Proofs.YteljlahcdipilaaGreat.step]; exact AnsE.must fun _ => AnsE.ite (fun _ => AnsE.some) fun _ => AnsE.some
    case path => simp only [Go.Proofs.YteljlahcdipilaaGreat.step]; exact AnsE.bnd (L (Nat.le_refl _) (by decide : 0 < 2)) fun v r h => L (run_rest h) (by decide : 1 < 2)
    case segs ns es =>
      simp only [Go.Proofs.YteljlahcdipilaaGreat.step]
      exact AnsE.ite (fun _ => AnsE.bnd (L (Nat.le_refl _) (by decide : 0 < 1)) fun v r h => AnsE.bnd (S (edge_lt h)) fun v2 r2 h2 => S (Nat.lt_of_le_of_lt (run_rest h2) (edge_lt h))) fun _ => AnsE.some
    case paths => simp only [Go.Proofs.YteljlahcdipilaaGreat.step]; exact AnsE.bnd (L (Nat.le_refl _) (by decide : 2 < 3)) fun v r h => L (run_rest h) (by decide : 0 < 3)
    case more acc =>
      simp only [Go.Proofs.YteljlahcdipilaaGreat.step]
      refine AnsE.ite (fun h => ?_) fun _ => AnsE.some
      have h1 := T (sgn_ne h) (Nat.le_refl _)
      exact AnsE.bnd (S h1) fun v r hr => S (Nat.lt_of_le_of_lt (run_rest hr) h1)
    case maybe w => simp only [Go.Proofs.YteljlahcdipilaaGreat.step]; exact AnsE.ite (fun h => AnsE.bnd (S (T (wrd_ne h) (Nat.le_refl _))) fun _ _ _ => AnsE.some) fun _ => AnsE.some
    case item => simp only [Go.Proofs.YteljlahcdipilaaGreat.step]; exact AnsE.bnd (L (Nat.le_refl _) (by decide : 3 < 4)) fun v r h => AnsE.ite (fun _ => AnsE.some) fun _ => AnsE.must fun _ => AnsE.name fun _ _ => AnsE.some
    case its acc =>
      simp only [Go.Proofs.YteljlahcdipilaaGreat.step]
      refine AnsE.ite (fun h => ?_) fun _ => AnsE.some
      have h1 := T (sgn_ne h) (Nat.le_refl _)
      exact AnsE.bnd (S h1) fun v r hr => S (Nat.lt_of_le_of_lt (run_rest hr) h1)
    case sorts => simp only [Go.Proofs.YteljlahcdipilaaGreat.step]; exact AnsE.ite (fun h => AnsE.must fun _ => S (Tl (T (wrd_ne h) (Nat.le_refl _)))) fun _ => AnsE.some
    case sortL acc =>
      simp only [Go.Proofs.YteljlahcdipilaaGreat.step]
      exact AnsE.bnd (L (Nat.le_refl _) (by decide : 3 < 4)) fun v r h => AnsE.ite (fun h2 => S (T (sgn_ne h2) (Nat.le_trans (if_le _ r) (run_rest h)))) fun _ => AnsE.some
    case rows kind =>
      simp only [Go.Proofs.YteljlahcdipilaaGreat.step]
      refine AnsE.bnd (L (if_le _ l) (by decide : 4 < 5)) fun v r h => ?_
      have h1 := Nat.le_trans (run_rest h) (if_le _ l)
      refine AnsE.bnd (L h1 (by decide : 0 < 5)) fun v2 r2 h2 => ?_
      have h3 := Nat.le_trans (run_rest h2) h1
      refine AnsE.bnd (L h3 (by decide : 0 < 5)) fun v4 r4 h4 => ?_
      have h5 := Nat.le_trans (run_rest h4) h3
      refine AnsE.bnd (L h5 (by decide : 0 < 5)) fun v6 r6 h6 => ?_
      exact AnsE.bnd (L (Nat.le_trans (run_rest h6) h5) (by decide : 0 < 5)) fun _ _ _ => AnsE.some
    case setL kind acc =>
      simp only [Go.Proofs.YteljlahcdipilaaGreat.step]
      refine AnsE.name fun h _ => ?_
      have h1 := T h (Nat.le_refl _)
      refine AnsE.ite (fun _ => AnsE.key fun _ _ => AnsE.ite (fun _ => S (Tl (Tl (Tl h1)))) fun _ => AnsE.some) fun _ => AnsE.must fun _ => AnsE.key fun _ _ => AnsE.ite (fun _ => AnsE.must fun _ => AnsE.bnd (S (Tl (Tl (Tl h1)))) fun v r hr => AnsE.ite (fun _ => S (Tl (Nat.lt_of_le_of_lt (run_rest hr) (Tl (Tl (Tl h1)))))) fun _ => AnsE.some) fun _ => AnsE.ite (fun _ => S (Tl (Tl (Tl h1)))) fun _ => AnsE.some
    case vars acc => simp only [Go.Proofs.YteljlahcdipilaaGreat.step]; exact AnsE.name fun h _ => AnsE.ite (fun _ => S (Tl (T h (Nat.le_refl _)))) fun _ => AnsE.some
    case clause w =>
      simp only [Go.Proofs.YteljlahcdipilaaGreat.step]
      refine AnsE.ite (fun _ => AnsE.bnd (L (Nat.le_refl _) (by decide : 3 < 6)) fun v r h => AnsE.bnd (L (run_rest h) (by decide : 0 < 6)) fun _ _ _ => AnsE.some) fun _ => AnsE.ite (fun _ => AnsE.bnd (L (Nat.le_refl _) (by decide : 3 < 6)) fun v r h => AnsE.must fun _ => AnsE.name fun _ _ => AnsE.some) fun _ =>
        AnsE.ite (fun _ => AnsE.bnd (L (Nat.le_refl _) (by decide : 5 < 6)) fun v r h => AnsE.bnd (L (run_rest h) (by decide : 0 < 6)) fun _ _ _ => AnsE.some) fun _ => AnsE.ite (fun _ => L (Nat.le_refl _) (by decide : 5 < 6)) fun _ => AnsE.ite (fun _ => AnsE.bnd (L (Nat.le_refl _) (by decide : 3 < 6)) fun _ _ _ => AnsE.some) fun _ =>
        AnsE.ite (fun _ => AnsE.bnd (L (Nat.le_refl _) (by decide : 0 < 6)) fun _ _ _ => AnsE.some) fun _ => AnsE.ite (fun _ => AnsE.bnd (L (Nat.le_refl _) (by decide : 0 < 6)) fun _ _ _ => AnsE.some) fun _ => AnsE.ite (fun _ => AnsE.bnd (L (Nat.le_refl _) (by decide : 0 < 6)) fun _ _ _ => AnsE.some) fun _ =>
        AnsE.ite (fun _ => AnsE.bnd (L (Nat.le_refl _) (by decide : 0 < 6)) fun _ _ _ => AnsE.some) fun _ => AnsE.must fun _ => AnsE.bnd (L (tl_le l) (by decide : 0 < 6)) fun _ _ _ => AnsE.some
    case stmt acc =>
      simp only [Go.Proofs.YteljlahcdipilaaGreat.step]
      refine AnsE.ite (fun _ => AnsE.some) fun _ => AnsE.ite (fun h => ?_) fun _ => AnsE.some
      have h1 := T (kne (by decide) h.1) (Nat.le_refl _)
      exact AnsE.bnd (S h1) fun v r hr => S (Nat.lt_of_le_of_lt (run_rest hr) h1)
theorem run_tot (g : G) (l : List Tok) : ∃ x, Run g l x := tot _ g l (Nat.le_refl _)
end Go.Proofs.YteljlahcdipilaaGreat

/- Parts X61 of this seat (pruned, scripts that are alike kept once as default arguments: q1, q2, ..). Conditions: each says its own. -/
import Derived.Test.YtndhpdclpgemfaaGreatW16
namespace Go.Proofs.YtndhpdclpgemfaaGreat
open Go.RowKit Go.Shelf
set_option linter.unusedSimpArgs false
set_option linter.unusedVariables false
set_option maxRecDepth 100000
def Hn (Y : List UInt8) : Prop := Y = [] ∨ nchar (nb Y 0) = false
theorem Rd.appH {X Y : List UInt8} {ts us : List Tok} (hX : Rd Nn X ts) (hY : Rd Nn Y us) (h : Hn Y) : Rd Nn (X ++ Y) (ts ++ us) := hX.app hY fun r hr => by
  cases Y with
  | nil => exact hr
  | cons c Y => exact h.resolve_left (by simp)
theorem Hn.app {X Y : List UInt8} (hX : Hn X) (hY : Hn Y) : Hn (X ++ Y) := by
 cases X with
 | nil => exact hY
 | cons c X => exact .inr (hX.resolve_left (by simp))
theorem Hn.cons (c : UInt8) (X : List UInt8) (h : nchar c.toNat = false) : Hn (c :: X) := .inr h
def varT (s : ByteArray) : List Tok := if (s.toList == []) = true then [] else [nmT s.data.toList]
theorem rd_var {s : ByteArray} (h : varM s = true) : Rd Nn s.data.toList (varT s) := by
 unfold varM at h
 rw [Bool.or_eq_true] at h
 unfold varT
 by_cases h0 : (s.toList == []) = true
 ·rw [if_pos h0, (ba_nil h0).2]; exact Rd.nil _
 ·rw [if_neg h0]; exact rd_name (h.resolve_left h0)
theorem may_var {s : ByteArray} {r : List Tok} (hr : (nx r).k ≠ 1) : mayN (varT s ++ r) = (s, r) := by
 unfold varT mayN
 by_cases h0 : (s.toList == []) = true
 ·rw [if_pos h0]
  show (if (nx r).k = 1 then _ else _) = _
  rw [if_neg hr, (ba_nil h0).1]; rfl
 ·rw [if_neg h0]; rfl
def labT (l : List ByteArray) : List Tok := l.flatMap fun k => [sgT [58], keyTok k]
theorem rd_labs : ∀ l : List ByteArray, Rd Nn (l.flatMap labX) (labT l)
  | [] => Rd.nil _
  | k :: l => by
    have h1 : Rd Nn (labX k) [sgT [58], keyTok k] := key_rd 58 (by decide) (by decide) (by decide) k
    have h2 := rd_labs l
    rw [List.flatMap_cons, labT, List.flatMap_cons]
    refine h1.appH h2 ?_
    cases l with
    | nil => exact .inl rfl
    | cons k2 l => exact .inr rfl
theorem hn_labs (l : List ByteArray) : Hn (l.flatMap labX) := by
 cases l with
 | nil => exact .inl rfl
 | cons k2 l => exact .inr rfl
theorem run_labels (r : List Tok) (hr : sigB 58 r = false) : ∀ (l acc : List ByteArray), l.all keyB = true → Run (.labels acc) (labT l ++ r) (.ok (.ss (acc ++ l)) r)
  | [], acc, _ => Run.of (by
    show Ans (fun c => step c (.labels acc) r) _
    simp only [step, hr, Bool.false_eq_true, ↓reduceIte, List.append_nil]
    exact Ans.ok)
  | k :: l, acc, h => by
    rw [List.all_cons, Bool.and_eq_true] at h
    have h2 := run_labels r hr l (acc ++ [k]) h.2
    refine Run.of ?_
    have e0 : labT (k :: l) ++ r = sgT [58] :: keyTok k :: (labT l ++ r) := by simp [labT]
    rw [e0]
    simp only [step, show sigB 58 (sgT [58] :: keyTok k :: (labT l ++ r)) = true from rfl, List.tail_cons, key_ok h.1, ↓reduceIte]
    have e1 : acc ++ k :: l = acc ++ [k] ++ l := by simp
    rw [e1]
    exact Ans.rec h2
theorem inner_all (a : Bool) {ks : List ByteArray} {vs : List Ex} (hM : propsM ks vs = true) (h64 : e64s vs) :
    (ks = [] ∧ vs = [] ∧ innerX a ks vs = []) ∨ ∃ r, Rd Any (innerX a ks vs) (sgT [123] :: r) ∧ Hn (innerX a ks vs) ∧ ∀ rest, Run .props ((sgT [123] :: r) ++ rest) (.ok (.kv ks vs) rest) := by
 unfold propsM at hM
 simp only [Bool.and_eq_true, decide_eq_true_eq] at hM
 obtain ⟨h1, h2, h3⟩ := hM
 unfold innerX
 by_cases h0 : ks.length = 0
 ·rw [if_pos h0]
  exact .inl ⟨List.length_eq_zero_iff.1 h0, List.length_eq_zero_iff.1 (by omega), rfl⟩
 ·rw [if_neg h0]
  obtain ⟨r, a1, a2⟩ := props_all h1 h2 fun t ht => xg_all 32 t (List.all_eq_true.1 h3 t ht) (e64s_mem h64 t ht)
  refine .inr ⟨r, ?_, ?_, a2⟩
  ·unfold propsX
   cases a with
   | false => exact (Rd.nil Any).app' a1
   | true => exact rd_blank.app' a1
  ·unfold propsX
   cases a with
   | false => exact .inr rfl
   | true => exact .inr rfl
theorem node_all {n : Npt} (h : nodeM n = true) (h64 : e64s n.vals) : ∃ r, Rd Any (nodeX n) (sgT [40] :: r) ∧ ∀ rest, Run .node ((sgT [40] :: r) ++ rest) (.ok (.np n) rest) := by
 unfold nodeM at h
 rw [Bool.and_eq_true, Bool.and_eq_true] at h
 obtain ⟨h1, h2, h3⟩ := h
 have hv := rd_var h2
 have hl := rd_labs n.labels
 have hb := hn_labs n.labels
 have h40 := rd_sign 40 (by decide) (by decide) (by decide)
 have h41 := rd_sign 41 (by decide) (by decide) (by decide)
 obtain ⟨var, labels, keys, vals⟩ := n
 simp only at h1 h2 h3 h64 hv hl hb
 unfold nodeX
 simp only
 rcases inner_all (!(var.toList == []) || !decide (labels.length = 0)) h3 h64 with ⟨rfl, rfl, e⟩ | ⟨r, a1, a2, a3⟩
 ·rw [e, List.nil_append]
  refine ⟨varT var ++ (labT labels ++ [sgT [41]]), ?_, fun rest => Run.of ?_⟩
  ·rw [List.append_assoc]
   exact h40.app' (hv.app (hl.appN h41 (by simp) rfl) fun r _ => by
    cases labels with
    | nil => rfl
    | cons k l => rfl)
  ·have e0 : sgT [40] :: (varT var ++ (labT labels ++ [sgT [41]])) ++ rest = sgT [40] :: (varT var ++ (labT labels ++ (sgT [41] :: rest))) := by simp
   rw [e0]
   have hm : mayN (varT var ++ (labT labels ++ (sgT [41] :: rest))) = (var, labT labels ++ (sgT [41] :: rest)) := may_var (by cases labels with | nil => exact (by decide : (5 : Nat) ≠ 1) | cons k l => exact (by decide : (5 : Nat) ≠ 1))
   have hr := run_labels (sgT [41] :: rest) rfl labels [] h1
   simp only [step, must, show sigB 40 (sgT [40] :: (varT var ++ (labT labels ++ (sgT [41] :: rest)))) = true from rfl, List.tail_cons, ↓reduceIte, hm]
   refine Ans.bnd (Ans.rec hr) ?_
   exact Ans.ok
 ·refine ⟨varT var ++ (labT labels ++ ((sgT [123] :: r) ++ [sgT [41]])), ?_, fun rest => Run.of ?_⟩
  ·rw [List.append_assoc]
   have h5 : Rd Any (innerX (!(var.toList == []) || !decide (labels.length = 0)) keys vals ++ [41]) ((sgT [123] :: r) ++ [sgT [41]]) := a1.app' h41
   have h6 : Hn (innerX (!(var.toList == []) || !decide (labels.length = 0)) keys vals ++ [41]) := a2.app (Hn.cons 41 [] rfl)
   have h7 : Rd Nn (labels.flatMap labX ++ (innerX (!(var.toList == []) || !decide (labels.length = 0)) keys vals ++ [41])) (labT labels ++ ((sgT [123] :: r) ++ [sgT [41]])) := hl.appH h5.any h6
   have h8 : ∀ x : List UInt8, Nn (innerX (!(var.toList == []) || !decide (labels.length = 0)) keys vals ++ [41] ++ x) := fun x => by
    rcases h6 with h6 | h6
    ·simp at h6
    ·unfold Nn; rw [nb_app x (by simp)]; exact h6
   exact h40.app' (hv.app (hl.app h5 fun r _ => h8 r) fun x _ => by
    rw [List.append_assoc]
    cases labels with
    | nil => exact h8 x
    | cons k l => rfl)
  ·have e0 : sgT [40] :: (varT var ++ (labT labels ++ ((sgT [123] :: r) ++ [sgT [41]]))) ++ rest = sgT [40] :: (varT var ++ (labT labels ++ ((sgT [123] :: r) ++ (sgT [41] :: rest)))) := by simp
   rw [e0]
   have hm : mayN (varT var ++ (labT labels ++ ((sgT [123] :: r) ++ (sgT [41] :: rest)))) = (var, labT labels ++ ((sgT [123] :: r) ++ (sgT [41] :: rest))) := may_var (by cases labels with | nil => exact (by decide : (5 : Nat) ≠ 1) | cons k l => exact (by decide : (5 : Nat) ≠ 1))
   have hr := run_labels ((sgT [123] :: r) ++ (sgT [41] :: rest)) rfl labels [] h1
   simp only [step, must, show sigB 40 (sgT [40] :: (varT var ++ (labT labels ++ ((sgT [123] :: r) ++ (sgT [41] :: rest))))) = true from rfl, List.tail_cons, ↓reduceIte, hm]
   refine Ans.bnd (Ans.rec hr) ?_
   simp only [show sigB 123 ((sgT [123] :: r) ++ (sgT [41] :: rest)) = true from rfl, ↓reduceIte]
   refine Ans.bnd (Ans.rec (a3 _)) ?_
   exact Ans.ok
def tyT (s : ByteArray) : List Tok := if (s.toList == []) = true then [] else [sgT [58], keyTok s]
theorem run_edgeE (d : Int) (hd : d = 1 ∨ d = 2) (var ty : ByteArray) (ks : List ByteArray) (vs : List Ex) (rest : List Tok) (h : sigB 62 rest = false) : Run (.edgeE d var ty ks vs) (sgT [45] :: rest) (.ok (.ep ⟨var, ty, d, ks, vs⟩) rest) := by
 refine Run.of ?_
 simp only [step, must, show sigB 45 (sgT [45] :: rest) = true from rfl, List.tail_cons, ↓reduceIte, h, Bool.false_eq_true, and_false]
 exact Ans.ok
theorem run_edgeE0 (var ty : ByteArray) (ks : List ByteArray) (vs : List Ex) (rest : List Tok) : Run (.edgeE 2 var ty ks vs) (sgT [45] :: sgT [62] :: rest) (.ok (.ep ⟨var, ty, 0, ks, vs⟩) rest) := by
 refine Run.of ?_
 simp only [step, must, show sigB 45 (sgT [45] :: sgT [62] :: rest) = true from rfl, show sigB 62 (sgT [62] :: rest) = true from rfl, List.tail_cons, ↓reduceIte, and_self]
 exact Ans.ok
theorem edgeIn_all {e : Ept} (h : edgeM e = true) (h64 : e64s e.vals) : ∃ ts, Rd Any (edgeIn e) ts ∧ Hn (edgeIn e) ∧ ∀ (d : Int) (l : List Tok) (rest : List Tok) (x : Pr), sigB 91 rest = false → (d = if sigB 60 l = true then 1 else 2) → (if sigB 60 l = true then l.tail else l) = sgT [45] :: (ts ++ rest) → Run (.edgeE d e.var e.ty e.keys e.vals) rest x → Run .edge l x := by
 unfold edgeM at h
 simp only [Bool.and_eq_true] at h
 obtain ⟨h1, h2, -, -, h3⟩ := h
 obtain ⟨var, ty, dir, keys, vals⟩ := e
 simp only at h1 h2 h3 h64
 unfold edgeIn
 simp only
 by_cases hc : (!(var.toList == []) || (!(ty.toList == []) || !decide (keys.length = 0))) = true
 ·rw [if_pos hc]
  have h91 := rd_sign 91 (by decide) (by decide) (by decide)
  have h93 := rd_sign 93 (by decide) (by decide) (by decide)
  have hv := rd_var h1
  have hty : Rd Nn (if (ty.toList == []) = true then [] else labX ty) (tyT ty) ∧ Hn (if (ty.toList == []) = true then [] else labX ty) := by
   unfold tyT
   split
   ·exact ⟨Rd.nil _, .inl rfl⟩
   ·exact ⟨key_rd 58 (by decide) (by decide) (by decide) ty, .inr rfl⟩
  have hin : ∃ us, Rd Any (innerX (!(var.toList == []) || !(ty.toList == [])) keys vals ++ [93]) (us ++ [sgT [93]]) ∧ Hn (innerX (!(var.toList == []) || !(ty.toList == [])) keys vals ++ [93]) ∧ (∀ r, sigB 58 (us ++ (sgT [93] :: r)) = false ∧ (nx (us ++ (sgT [93] :: r))).k ≠ 1) ∧
      ∀ (d : Int) (rest : List Tok) (x : Pr), Run (.edgeE d var ty keys vals) rest x → Run (.edgeP d var ty) (us ++ (sgT [93] :: rest)) x := by
    rcases inner_all (!(var.toList == []) || !(ty.toList == [])) h3 h64 with ⟨rfl, rfl, e⟩ | ⟨r, a1, a2, a3⟩
    · rw [e]
      refine ⟨[], (Rd.nil Any).app' h93, Hn.cons 93 [] rfl, fun r => ⟨rfl, (by decide : (5 : Nat) ≠ 1)⟩, fun d rest x hx => Run.of ?_⟩
      rw [List.nil_append]
      simp only [step, must, show sigB 123 (sgT [93] :: rest) = false from rfl, show sigB 93 (sgT [93] :: rest) = true from rfl, List.tail_cons, ↓reduceIte, Bool.false_eq_true]
      exact Ans.rec hx
    · refine ⟨sgT [123] :: r, a1.app' h93, a2.app (Hn.cons 93 [] rfl), fun r => ⟨rfl, (by decide : (5 : Nat) ≠ 1)⟩, fun d rest x hx => Run.of ?_⟩
      simp only [step, show sigB 123 ((sgT [123] :: r) ++ (sgT [93] :: rest)) = true from rfl, ↓reduceIte]
      refine Ans.bnd (Ans.rec (a3 _)) ?_
      exact Ans.rec hx
  obtain ⟨us, b1, b2, b3, b4⟩ := hin
  have hk : ∀ r, (nx (tyT ty ++ (us ++ (sgT [93] :: r)))).k ≠ 1 := fun r => by
   unfold tyT
   split
   ·exact (b3 r).2
   ·exact (by decide : (5 : Nat) ≠ 1)
  refine ⟨sgT [91] :: (varT var ++ (tyT ty ++ (us ++ [sgT [93]]))), ?_, .inr rfl, fun d l rest x hs hd hl hx => ?_⟩
  ·rw [List.append_assoc]
   have h8 : ∀ x : List UInt8, Nn (innerX (!(var.toList == []) || !(ty.toList == [])) keys vals ++ [93] ++ x) := fun x => by
    rcases b2 with h6 | h6
    ·simp at h6
    ·unfold Nn; rw [nb_app x (by simp)]; exact h6
   exact h91.app' (hv.app (hty.1.app b1 fun r _ => h8 r) fun x _ => by
    rw [List.append_assoc]
    split
    ·exact h8 x
    ·rfl)
  ·have e0 : sgT [91] :: (varT var ++ (tyT ty ++ (us ++ [sgT [93]]))) ++ rest = sgT [91] :: (varT var ++ (tyT ty ++ (us ++ (sgT [93] :: rest)))) := by simp
   rw [e0] at hl
   have hm : mayN (varT var ++ (tyT ty ++ (us ++ (sgT [93] :: rest)))) = (var, tyT ty ++ (us ++ (sgT [93] :: rest))) := may_var (hk rest)
   refine Run.of ?_
   simp only [step, ← hd, hl]
   simp only [must, show ∀ r, sigB 45 (sgT [45] :: r) = true from fun _ => rfl, show ∀ r, sigB 91 (sgT [91] :: r) = true from fun _ => rfl, List.tail_cons, ↓reduceIte, hm]
   by_cases h0 : (ty.toList == []) = true
   ·have e1 : tyT ty = [] := by unfold tyT; rw [if_pos h0]
    have e2 := (ba_nil h0).1
    rw [e1, List.nil_append]
    simp only [(b3 rest).1, Bool.false_eq_true, ↓reduceIte]
    have := b4 d rest x hx
    rw [e2] at this
    exact Ans.rec this
   ·have e1 : tyT ty = [sgT [58], keyTok ty] := by unfold tyT; rw [if_neg h0]
    have e3 : tyT ty ++ (us ++ (sgT [93] :: rest)) = sgT [58] :: keyTok ty :: (us ++ (sgT [93] :: rest)) := by rw [e1]; rfl
    have hkb : keyB ty = true := by
     rw [Bool.or_eq_true] at h2
     exact h2.resolve_left h0
    rw [e3]
    simp only [show ∀ r, sigB 58 (sgT [58] :: r) = true from fun _ => rfl, List.tail_cons, key_ok hkb, ↓reduceIte]
    exact Ans.rec (b4 d rest x hx)
 ·rw [if_neg hc]
  simp only [Bool.or_eq_true, not_or, Bool.not_eq_true, Bool.not_eq_false'] at hc
  obtain ⟨c1, c2, c3⟩ := hc
  have e1 := (ba_nil c1).1
  have e2 := (ba_nil c2).1
  have e3 : keys = [] := List.length_eq_zero_iff.1 (of_decide_eq_true c3)
  have e4 : vals = [] := by
   unfold propsM at h3
   simp only [Bool.and_eq_true, decide_eq_true_eq] at h3
   exact List.length_eq_zero_iff.1 (by rw [← h3.1, e3]; rfl)
  subst e1 e2 e3 e4
  refine ⟨[], Rd.nil _, .inl rfl, fun d l rest x hs hd hl hx => ?_⟩
  rw [List.nil_append] at hl
  refine Run.of ?_
  simp only [step, ← hd, hl]
  simp only [must, show ∀ r, sigB 45 (sgT [45] :: r) = true from fun _ => rfl, List.tail_cons, ↓reduceIte, hs, Bool.false_eq_true]
  exact Ans.rec hx
def F40 (r : List UInt8) : Prop := nb r 0 = 40
theorem edge_all {e : Ept} (h : edgeM e = true) (h64 : e64s e.vals) : ∃ ts, Rd F40 (edgeX e) ts ∧ ∀ r, (sigB 45 (ts ++ r) || sigB 60 (ts ++ r)) = true ∧ (sigB 62 r = false → Run .edge (ts ++ r) (.ok (.ep e) r)) := by
 obtain ⟨ts, a1, a2, a3⟩ := edgeIn_all h h64
 have h45 := rd_sign 45 (by decide) (by decide) (by decide)
 unfold edgeM at h
 simp only [Bool.and_eq_true, decide_eq_true_eq] at h
 obtain ⟨-, -, h4, h5, -⟩ := h
 have hd : e.dir = 0 ∨ e.dir = 1 ∨ e.dir = 2 := by omega
 unfold edgeX
 rcases hd with hd | hd | hd
 ·have e1 : (e.dir == 1) = false := by rw [hd]; rfl
  have e2 : (e.dir == 0) = true := by rw [hd]; rfl
  rw [e1, e2]
  refine ⟨sgT [45] :: (ts ++ [sgT [45], sgT [62]]), ?_, fun r => ⟨rfl, fun hr => ?_⟩⟩
  ·have h62 : Rd F40 [62] [sgT [62]] := (rd_angle 62 (.inr rfl)).mono fun r hr => by unfold Ns; rw [show nb r 0 = 40 from hr]; decide
   exact h45.app' (a1.app' (h45.app' h62))
  ·refine a3 2 _ (sgT [45] :: sgT [62] :: r) _ rfl rfl (by simp; rfl) ?_
   have := run_edgeE0 e.var e.ty e.keys e.vals r
   rw [← hd] at this
   exact this
 ·have e1 : (e.dir == 1) = true := by rw [hd]; rfl
  have e2 : (e.dir == 0) = false := by rw [hd]; rfl
  rw [e1, e2]
  refine ⟨sgT [60] :: sgT [45] :: (ts ++ [sgT [45]]), ?_, fun r => ⟨rfl, fun hr => ?_⟩⟩
  ·have h60 : Rd Any ([60] ++ ([45] ++ (edgeIn e ++ ([45] ++ [])))) ([sgT [60]] ++ ([sgT [45]] ++ (ts ++ ([sgT [45]] ++ [])))) := (rd_angle 60 (.inl rfl)).app (h45.app' (a1.app' (h45.app' (Rd.nil Any)))) fun r _ => ⟨(by decide : (45 : Nat) ≠ 61), (by decide : (45 : Nat) ≠ 62)⟩
   exact h60.any
  ·refine a3 1 _ (sgT [45] :: r) _ rfl rfl (by simp [show sigB 60 (sgT [60] :: sgT [45] :: (ts ++ sgT [45] :: r)) = true from rfl]) ?_
   have := run_edgeE 1 (.inl rfl) e.var e.ty e.keys e.vals r hr
   rw [← hd] at this
   rw [← hd]
   exact this
 ·have e1 : (e.dir == 1) = false := by rw [hd]; rfl
  have e2 : (e.dir == 0) = false := by rw [hd]; rfl
  rw [e1, e2]
  refine ⟨sgT [45] :: (ts ++ [sgT [45]]), ?_, fun r => ⟨rfl, fun hr => ?_⟩⟩
  ·exact (h45.app' (a1.app' (h45.app' (Rd.nil Any)))).any
  ·refine a3 2 _ (sgT [45] :: r) _ rfl rfl (by simp; rfl) ?_
   have := run_edgeE 2 (.inr rfl) e.var e.ty e.keys e.vals r hr
   rw [← hd] at this
   rw [← hd]
   exact this
end Go.Proofs.YtndhpdclpgemfaaGreat

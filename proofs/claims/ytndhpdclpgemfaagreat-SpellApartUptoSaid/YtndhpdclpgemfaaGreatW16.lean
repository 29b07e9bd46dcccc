/- Parts Shaped, X58, X59, X60 of this seat (pruned, scripts that are alike kept once as default arguments: q1, q2, ..). Conditions: each says its own. -/
import Derived.HandedShaped
import Derived.Test.YtndhpdclpgemfaaGreatW12
import Derived.Test.YtndhpdclpgemfaaGreatW15
namespace Go.Proofs.YtndhpdclpgemfaaGreat
open Go.ChangeShapes
variable {H : Type} {enc : TypeId × Value → H}
theorem returnsInHanded_of_cond_shaped {a : Assume} {C : Checked} {os : Os} {f : FuncId} {fn : Func} {s : OpenSpec} {k : (H : Type) → List (DataW H) → Bool} (hk : s.cond = some k) {F : Stop.Interp} {conds : List PathCond} {apart fresh handsOn again : Bool}
    (own : ownKnob C.prog.godebug = none) (started : os.Started) (noInit : C.prog.inits.idxOf? f = none) (hfn : C.prog.funcs[f]? = some fn)
    (witness : ∃ (w : World) (tape : Tape) (i : Input), w.os = os ∧ (w.forCall tape i).Shaped C.prog ∧ i.vars = [] ∧ Input.okWide C.prog (w.forCall tape i) .any w.heap.size f i ∧
      s.pre6 enc C.prog fn conds apart (w.forCall tape i).memory i.args ∧ a.holds C.prog (lone (Frame.enter C.prog f i.args .normal) [] (w.forCall tape i)))
    (contract : ∀ (W : World) (base : Nat) (args : Array Value) (ds gs : List (DataW H)) (before : List MemPlace),
      (∀ (j : Nat) t v, fn.params[j]? = some t → args[j]? = some v → Value.okWide C.prog W .any base t v) →
      DataW.Whole enc C.prog fn.params.toList s.vars apart W args.toList ds gs before →
      conds.all (PathCond.test C.prog ⟨fn.params.toList, ds, s.bare.plain.varTypes C.prog, gs⟩) = true → k H (ds ++ gs) = true →
      W.ShapedOpen C.prog →
      a.holds C.prog (lone (Frame.enter C.prog f args .normal) [] W) →
      Calls C.prog f args W fun e W' => ∃ v, e = .returned v ∧ (s.at F).post enc C.prog fn apart fresh handsOn again W args v W') :
    ReturnsInHanded a C os f .any (s.pre6 enc C.prog fn conds apart) ((s.at F).post enc C.prog fn apart fresh handsOn again) := by
 refine returnsInHanded_of_calls own started noInit witness ?_
 intro w tape i _ hsh _ hok hpre hholds
 obtain ⟨_, _, _, fn', hfn', _, _, _, _, hval⟩ := hok
 have e : fn' = fn := Option.some.inj (hfn'.symm.trans hfn)
 subst e
 obtain ⟨ds, gs, before, hw, hc, hkk⟩ := (OpenSpec.pre_some hk conds apart _ _).1 hpre.1
 have hw' := DataW.Whole.of_heap (w' := w.forCall tape i) (by rfl) hw
 refine (contract (w.forCall tape i) w.heap.size i.args ds gs before hval hw' hc hkk hsh hholds).mono fun e W' ⟨v, he, hp⟩ => ?_
 subst he
 exact ChangeSpec.post_blind hp
theorem ml_shaped (w : World) (h : w.ShapedOpen Tryz.prog) : ∃ m, w.cell? ⟨0, 0, none⟩ = some (.int .i64 m) :=
  Go.Proofs.cell_of_shapedOpen_int (zero := #[.int .i64 0]) (t := 3) h (of_decide_eq_true (by kernel_rfl)) (by kernel_rfl) rfl (by kernel_rfl) (by kernel_rfl) Tryz.underlying3
end Go.Proofs.YtndhpdclpgemfaaGreat
namespace Go.Proofs.YtndhpdclpgemfaaGreat
open Go.RowKit Go.Shelf
set_option linter.unusedSimpArgs false
set_option linter.unusedVariables false
set_option maxRecDepth 100000
theorem ba_nil {s : ByteArray} (h : (s.toList == []) = true) : s = ⟨#[]⟩ ∧ s.data.toList = [] := by
 have h1 : s.data.toList = [] := by rw [← ba_list]; exact eq_of_beq h
 refine ⟨?_, h1⟩
 obtain ⟨⟨l⟩⟩ := s
 have : l = [] := h1
 subst this; rfl
theorem ba_is {s : ByteArray} {l : List UInt8} (h : (s.toList == l) = true) : s = strOf l ∧ s.data.toList = l := by
 have h1 : s.data.toList = l := by rw [← ba_list]; exact eq_of_beq h
 refine ⟨?_, h1⟩
 obtain ⟨⟨q⟩⟩ := s
 have : q = l := h1
 subst this; rfl
def F32 (r : List UInt8) : Prop := nb r 0 = 32
def opsL : List (List UInt8) := [[79, 82], [88, 79, 82], [65, 78, 68], [61], [60, 62], [60], [60, 61], [62], [62, 61], [73, 78], [43], [45], [42], [47], [37]]
theorem lv {s : ByteArray} {l : List UInt8} {a r : Int} (h : 0 < if (s.toList == l) = true then a else r) (hl : l ∈ opsL) : (∃ l ∈ opsL, s = strOf l ∧ s.data.toList = l) ∨ 0 < r := by
 by_cases e : (s.toList == l) = true
 ·exact .inl ⟨l, hl, ba_is e⟩
 ·rw [if_neg e] at h; exact .inr h
theorem level_mem {s : ByteArray} (h : 0 < levelB s) : ∃ l ∈ opsL, s = strOf l ∧ s.data.toList = l := by
 unfold levelB at h
 iterate 15 (rcases lv h (by decide) with h | h; exact h)
 exact absurd h (by decide)
theorem op_tok {s : ByteArray} (h : 0 < levelB s) : ∃ tk, Rd F32 s.data.toList [tk] ∧ levelB s = (pwT tk : Nat) ∧ strOf tk.t = s ∧ tk.t ≠ wIS ∧ (∀ r, stopP (tk :: r)) ∧ 1 ≤ pwT tk := by
 obtain ⟨l, hl, rfl, h2⟩ := level_mem h
 rw [h2]
 have hn : ∀ r, F32 r → Nn r := fun r hr => by unfold Nn; rw [show nb r 0 = 32 from hr]; decide
 have hs : ∀ r, F32 r → Ns r := fun r hr => by unfold Ns; rw [show nb r 0 = 32 from hr]; decide
 simp only [opsL, List.mem_cons, List.not_mem_nil, or_false] at hl
 rcases hl with rfl | rfl | rfl | rfl | rfl | rfl | rfl | rfl | rfl | rfl | rfl | rfl | rfl | rfl | rfl
 all_goals first
  | exact ⟨wdT _, (rd_word _ (by decide)).mono hn, by decide +kernel, rfl, by decide, fun r => ⟨rfl, rfl, rfl, rfl⟩, by decide +kernel⟩
  | exact ⟨sgT _, (rd_sign _ (by decide) (by decide) (by decide)).any, by decide +kernel, rfl, by decide, fun r => ⟨rfl, rfl, rfl, rfl⟩, by decide +kernel⟩
  | exact ⟨sgT _, (rd_two _ (by decide)).any, by decide +kernel, rfl, by decide, fun r => ⟨rfl, rfl, rfl, rfl⟩, by decide +kernel⟩
  | exact ⟨sgT _, (rd_angle _ (by decide)).mono hs, by decide +kernel, rfl, by decide, fun r => ⟨rfl, rfl, rfl, rfl⟩, by decide +kernel⟩
mutual
def e64 : Ex → Prop
  | .mk _ _ (.mk _ _ i _ _ _) _ az => In64 i ∧ e64s az
def e64s : List Ex → Prop
  | [] => True
  | t :: ts => e64 t ∧ e64s ts
end
theorem e64s_mem : ∀ {l : List Ex}, e64s l → ∀ t ∈ l, e64 t
  | [], _, t, h => by cases h
  | a :: l, h, t, ht => by
    rw [e64s] at h
    rcases List.mem_cons.1 ht with rfl | ht
    · exact h.1
    · exact e64s_mem h.2 t ht
theorem lit_parts {k : Int} {b : Bool} {i : Int} {s : ByteArray} {l : List Vt} {ks : List ByteArray} (h : litB (.mk k b i s l ks) = true) :
    (k = 0 ∧ Vt.mk k b i s l ks = emptyV) ∨ (k = 1 ∧ Vt.mk k b i s l ks = .mk 1 b 0 ⟨#[]⟩ [] []) ∨ (k = 2 ∧ 0 ≤ i ∧ Vt.mk k b i s l ks = .mk 2 false i ⟨#[]⟩ [] []) ∨ (k = 3 ∧ Vt.mk k b i s l ks = .mk 3 false 0 s [] []) := by
 unfold litB at h
 rw [Bool.and_eq_true] at h
 obtain ⟨h1, h2⟩ := h
 unfold mayB at h1
 obtain ⟨k', b', i', s', l', ks', e, hh, -⟩ := mayV_parts h1
 injection e with e1 e2 e3 e4 e5 e6
 subst e1 e2 e3 e4 e5 e6
 have h3 := of_decide_eq_true hh
 obtain ⟨-, -, -, -, h4, -, -⟩ := h3
 have h5 := of_decide_eq_true h4
 have hz : s.size = 0 → s = ⟨#[]⟩ := fun h => by
  obtain ⟨⟨q⟩⟩ := s
  have : q = [] := List.length_eq_zero_iff.1 h
  subst this; rfl
 obtain ⟨a1, a2, a3, a4, a5⟩ := h5
 have hk : k = 0 ∨ k = 1 ∨ (k = 2 ∧ 0 ≤ i) ∨ k = 3 := by simpa using h2
 have z4 : l = [] := List.length_eq_zero_iff.1 (by omega)
 have z5 : ks = [] := List.length_eq_zero_iff.1 (by omega)
 subst z4 z5
 rcases hk with rfl | rfl | ⟨rfl, hi⟩ | rfl
 ·have z1 : b = false := a1.resolve_left (by decide)
  have z2 : i = 0 := by omega
  have z3 := hz (by omega)
  subst z1 z2 z3; exact .inl ⟨rfl, rfl⟩
 ·have z2 : i = 0 := by omega
  have z3 := hz (by omega)
  subst z2 z3; exact .inr (.inl ⟨rfl, rfl⟩)
 ·have z1 : b = false := a1.resolve_left (by decide)
  have z3 := hz (by omega)
  subst z1 z3; exact .inr (.inr (.inl ⟨rfl, hi, rfl⟩))
 ·have z1 : b = false := a1.resolve_left (by decide)
  have z2 : i = 0 := by omega
  subst z1 z2; exact .inr (.inr (.inr ⟨rfl, rfl⟩))
theorem Nd.one {t : Ex} {tk : Tok} (n : Nat) (hp : primT tk = true) (ha : ∀ rest, sigB 40 rest = false → Run .atom (tk :: rest) (.ok (.x t) rest)) : Nd n t [tk] :=
  Nd.of9 n ⟨tk, [], rfl, hp⟩ fun rest least x h40 h => run_unary (prim_not hp).1 (prim_not hp).2.1 (ha rest h40) h
theorem xg_lit {v : Vt} (h : litB v = true) (h64 : e64 (.mk 1 ⟨#[]⟩ v [] [])) : ∃ ts, Rd Nn (showV v) ts ∧ Nd 10 (.mk 1 ⟨#[]⟩ v [] []) ts := by
 obtain ⟨k, b, i, s, l, ks⟩ := v
 rw [e64] at h64
 rw [showV]
 rcases lit_parts h with ⟨rfl, e⟩ | ⟨rfl, e⟩ | ⟨rfl, hi, e⟩ | ⟨rfl, e⟩ <;> rw [e]
 ·simp only [Int.reduceEq, reduceIte]
  refine ⟨[wdT wNULL], ?_, Nd.one 10 rfl fun rest _ => Run.of ?_⟩
  ·exact rd_wordL [110, 117, 108, 108] (by decide +kernel) (by simp) (by decide) (by decide +kernel) (by decide +kernel)
  ·simp only [step, show (nx (wdT wNULL :: rest)).k = 2 from rfl, show wrd wNULL (wdT wNULL :: rest) = true from rfl]
   exact Ans.ok
 ·simp only [reduceIte]
  cases b with
  | true =>
   refine ⟨[wdT wTRUE], ?_, Nd.one 10 rfl fun rest _ => Run.of ?_⟩
   ·exact rd_wordL [116, 114, 117, 101] (by decide +kernel) (by simp) (by decide) (by decide +kernel) (by decide +kernel)
   ·simp only [step, show (nx (wdT wTRUE :: rest)).k = 2 from rfl, show wrd wNULL (wdT wTRUE :: rest) = false from rfl, show (wrd wTRUE (wdT wTRUE :: rest) || wrd wFALSE (wdT wTRUE :: rest)) = true from rfl]
    exact Ans.ok
  | false =>
   refine ⟨[wdT wFALSE], ?_, Nd.one 10 rfl fun rest _ => Run.of ?_⟩
   ·exact rd_wordL [102, 97, 108, 115, 101] (by decide +kernel) (by simp) (by decide) (by decide +kernel) (by decide +kernel)
   ·simp only [step, show (nx (wdT wFALSE :: rest)).k = 2 from rfl, show wrd wNULL (wdT wFALSE :: rest) = false from rfl, show (wrd wTRUE (wdT wFALSE :: rest) || wrd wFALSE (wdT wFALSE :: rest)) = true from rfl]
    exact Ans.ok
 ·simp only [Int.reduceEq, reduceIte]
  refine ⟨[inT i], rd_int h64.1 hi, Nd.one 10 rfl fun rest _ => Run.of ?_⟩
  simp only [step, show (nx (inT i :: rest)).k = 3 from rfl]
  exact Ans.ok
 ·simp only [Int.reduceEq, reduceIte]
  refine ⟨[stT s.data.toList], (rd_quote _).any, Nd.one 10 rfl fun rest _ => Run.of ?_⟩
  simp only [step, show (nx (stT s.data.toList :: rest)).k = 4 from rfl]
  exact Ans.ok
theorem xg_name {nm : ByteArray} (h : plainB nm = true) : Rd Nn nm.data.toList [nmT nm.data.toList] ∧ Nd 10 (.mk 2 nm emptyV [] []) [nmT nm.data.toList] := by
 refine ⟨rd_name h, Nd.one 10 rfl fun rest h40 => Run.of ?_⟩
 simp only [step, show (nx (nmT nm.data.toList :: rest)).k = 1 from rfl, List.tail_cons, h40]
 exact Ans.ok
theorem xg_param {nm : ByteArray} (h : plainB nm = true) : Rd Nn ([36] ++ nm.data.toList) [sgT [36], nmT nm.data.toList] ∧ Nd 10 (.mk 3 nm emptyV [] []) [sgT [36], nmT nm.data.toList] := by
 refine ⟨(rd_sign 36 (by decide) (by decide) (by decide)).app' (rd_name h), Nd.of9 10 ⟨_, _, rfl, rfl⟩ fun rest least x h40 hp => run_unary rfl rfl (Run.of ?_) hp⟩
 have e0 : [sgT [36], nmT nm.data.toList] ++ rest = sgT [36] :: nmT nm.data.toList :: rest := rfl
 rw [e0]
 simp only [step, show (nx (sgT [36] :: nmT nm.data.toList :: rest)).k = 5 from rfl, show wrd wNULL (sgT [36] :: nmT nm.data.toList :: rest) = false from rfl, show (wrd wTRUE (sgT [36] :: nmT nm.data.toList :: rest) || wrd wFALSE (sgT [36] :: nmT nm.data.toList :: rest)) = false from rfl, show sigB 36 (sgT [36] :: nmT nm.data.toList :: rest) = true from rfl, List.tail_cons]
 exact Ans.ok
theorem rd_colon : Rd Any [58, 32] [sgT [58]] := by
 have := (rd_sign 58 (by decide) (by decide) (by decide)).app' rd_blank
 simpa using this
theorem rd_kv {k : ByteArray} {t : Ex} {ts : List Tok} (h : Rd Nn (textX t) ts) : Rd Nn (keyTL k ++ [58, 32] ++ textX t) (kvT (k, t, ts)) := by
 rw [List.append_assoc]
 exact (rd_key k).appN (rd_colon.app' h) (by simp) rfl
theorem withK_zip : ∀ (ks : List ByteArray) (l : List (Ex × List Tok)), ks.length = l.length → withK ks ((l.map Prod.fst).map textX) = (ks.zip l).map (fun p => keyTL p.1 ++ [58, 32] ++ textX p.2.1)
  | [], [], _ => rfl
  | k :: ks, p :: l, h => by
    have := withK_zip ks l (by simpa using h)
    unfold withK at this ⊢
    simp only [List.map_cons, List.zipWith_cons_cons, List.zip_cons_cons, this]
theorem zip_fst : ∀ (ks : List ByteArray) (l : List (Ex × List Tok)), ks.length = l.length → (ks.zip l).map (·.1) = ks ∧ (ks.zip l).map (·.2.1) = l.map Prod.fst
  | [], [], _ => ⟨rfl, rfl⟩
  | k :: ks, p :: l, h => by
    obtain ⟨h1, h2⟩ := zip_fst ks l (by simpa using h)
    simp only [List.zip_cons_cons, List.map_cons, h1, h2]
    exact ⟨trivial, trivial⟩
theorem pairs_jn (q : List (ByteArray × Ex × List Tok)) (h : ∀ p ∈ q, Rd Nn (textX p.2.1) p.2.2) : Rd Nn (jn (q.map (fun p => keyTL p.1 ++ [58, 32] ++ textX p.2.1))) (rowT (q.map kvT)) := by
 have := rd_jn (q.map fun p => (keyTL p.1 ++ [58, 32] ++ textX p.2.1, kvT p)) (fun y hy => by
  obtain ⟨p, hp, rfl⟩ := List.mem_map.1 hy
  exact rd_kv (h p hp))
 rw [List.map_map, List.map_map] at this
 exact this
theorem props_all {ks : List ByteArray} {vs : List Ex} (hl : ks.length = vs.length) (hk : ks.all keyB = true) (h : ∀ t ∈ vs, Xg t) :
    ∃ r, Rd Any ([123] ++ jn (withK ks (vs.map textX)) ++ [125]) (sgT [123] :: r) ∧ ∀ rest, Run .props ((sgT [123] :: r) ++ rest) (.ok (.kv ks vs) rest) := by
 obtain ⟨l, rfl, h2⟩ := each (P := fun t ts => Rd Nn (textX t) ts ∧ Whole t ts) vs fun t ht => (h t ht).whole
 rw [List.length_map] at hl
 obtain ⟨z1, z2⟩ := zip_fst ks l hl
 have hm : ∀ p ∈ ks.zip l, p.1 ∈ ks ∧ p.2 ∈ l := fun p hp => by obtain ⟨a, b⟩ := p; exact List.of_mem_zip hp
 refine ⟨rowT ((ks.zip l).map kvT) ++ [sgT [125]], ?_, fun rest => ?_⟩
 ·rw [withK_zip ks l hl, List.append_assoc]
  have h3 := pairs_jn (ks.zip l) fun p hp => (h2 p.2 (hm p hp).2).1
  exact (rd_sign 123 (by decide) (by decide) (by decide)).app' (h3.appN (rd_sign 125 (by decide) (by decide) (by decide)) (by simp) rfl)
 ·have := run_props rest (ks.zip l) fun p hp => ⟨List.all_eq_true.1 hk p.1 (hm p hp).1, (h2 p.2 (hm p hp).2).2⟩
  rw [z1, z2] at this
  rw [List.cons_append, List.append_assoc]
  exact this
theorem row_all {vs : List Ex} (h : ∀ t ∈ vs, Xg t) : ∃ l : List (Ex × List Tok), l.map Prod.fst = vs ∧ Rd Nn (jn (vs.map textX)) (rowT (l.map Prod.snd)) ∧ ∀ p ∈ l, Whole p.1 p.2 := by
 obtain ⟨l, h1, h2⟩ := each (P := fun t ts => Rd Nn (textX t) ts ∧ Whole t ts) vs fun t ht => (h t ht).whole
 refine ⟨l, h1, ?_, fun p hp => (h2 p hp).2⟩
 have := rd_jn (l.map fun p => (textX p.1, p.2)) (fun y hy => by obtain ⟨p, hp, rfl⟩ := List.mem_map.1 hy; exact (h2 p hp).1)
 rw [List.map_map, List.map_map] at this
 rw [← h1, List.map_map]
 exact this
theorem pw_ne4 (t : Tok) : pwT t ≠ 4 := by
 have hi : ∀ {p : Prop} [Decidable p] {a b : Int}, a ≠ 4 → b ≠ 4 → (if p then a else b) ≠ 4 := by intro p _ a b h1 h2; split <;> assumption
 unfold pwT
 split
 ·split
  ·omega
  ·have : levelB (strOf t.t) ≠ 4 := by unfold levelB; (repeat (refine hi (by decide) ?_)); decide
   omega
 ·omega
theorem Nd.hd9 {t u : Ex} {ts us : List Tok} {n : Nat} (h : Nd 9 t ts) (pr : ∀ (rest : List Tok) (x : Pr), sigB 40 rest = false → Run (.post u) rest x → Run (.post t) (us ++ rest) x) (h40 : ∀ rest, sigB 40 (us ++ rest) = false) : Nd n u (ts ++ us) := by
 refine Nd.of9 n ?_ fun rest least x hr hp => ?_
 ·obtain ⟨a, r, rfl, -, -, h4⟩ := h.hd
  exact ⟨a, r ++ us, rfl, h4 (by omega)⟩
 ·rw [List.append_assoc]
  exact h.pr (by omega) _ least x (h40 rest) (pr rest x hr hp)
theorem key_rd (c : UInt8) (hc : [c] ∈ signsL) (h1 : c ≠ 60) (h2 : c ≠ 62) (nm : ByteArray) : Rd Nn ([c] ++ keyTL nm) [sgT [c], keyTok nm] := (rd_sign c hc h1 h2).app' (rd_key nm)
theorem xg_prop {nm : ByteArray} {a : Ex} (ha : Xg a) (hk : keyB nm = true) : ∃ ts, Rd Nn (needX 9 a ++ ([46] ++ keyTL nm)) ts ∧ Nd 9 (mE 4 nm [a]) ts := by
 obtain ⟨ts, h1, h2⟩ := ha.need 9
 refine ⟨ts ++ [sgT [46], keyTok nm], h1.appN (key_rd 46 (by decide) (by decide) (by decide) nm) (by simp) rfl, h2.hd9 (fun rest x _ hp => Run.of ?_) fun rest => rfl⟩
 have e0 : [sgT [46], keyTok nm] ++ rest = sgT [46] :: keyTok nm :: rest := rfl
 rw [e0]
 simp only [step, show sigB 46 (sgT [46] :: keyTok nm :: rest) = true from rfl, List.tail_cons, key_ok hk, ↓reduceIte]
 exact Ans.rec hp
theorem xg_has {nm : ByteArray} {a : Ex} (ha : Xg a) (hk : keyB nm = true) (h2 : opX a = 2) : ∃ ts, Rd Nn (needX 9 a ++ ([58] ++ keyTL nm)) ts ∧ Nd 9 (mE 15 nm [a]) ts := by
 obtain ⟨ts, h1, h3⟩ := ha.need 9
 refine ⟨ts ++ [sgT [58], keyTok nm], h1.appN (key_rd 58 (by decide) (by decide) (by decide) nm) (by simp) rfl, h3.hd9 (fun rest x _ hp => Run.of ?_) fun rest => rfl⟩
 have e0 : [sgT [58], keyTok nm] ++ rest = sgT [58] :: keyTok nm :: rest := rfl
 rw [e0]
 simp only [step, show sigB 46 (sgT [58] :: keyTok nm :: rest) = false from rfl, show sigB 91 (sgT [58] :: keyTok nm :: rest) = false from rfl, show sigB 58 (sgT [58] :: keyTok nm :: rest) = true from rfl, h2, List.tail_cons, key_ok hk, ↓reduceIte, and_self, Bool.false_eq_true]
 exact Ans.rec hp
theorem xg_at {a b : Ex} (ha : Xg a) (hb : Xg b) : ∃ ts, Rd Nn (needX 9 a ++ ([91] ++ textX b ++ [93])) ts ∧ Nd 9 (mE 7 ⟨#[]⟩ [a, b]) ts := by
 obtain ⟨ts, h1, h2⟩ := ha.need 9
 obtain ⟨us, h3, h4⟩ := hb.whole
 have hr : Rd Nn ([91] ++ textX b ++ [93]) (sgT [91] :: (us ++ [sgT [93]])) := by
  rw [List.append_assoc]
  exact ((rd_sign 91 (by decide) (by decide) (by decide)).app' (h3.appN (rd_sign 93 (by decide) (by decide) (by decide)) (by simp) rfl)).any
 refine ⟨ts ++ (sgT [91] :: (us ++ [sgT [93]])), h1.appN hr (by simp) rfl, h2.hd9 (fun rest x _ hp => Run.of ?_) fun rest => rfl⟩
 have e0 : sgT [91] :: (us ++ [sgT [93]]) ++ rest = sgT [91] :: (us ++ (sgT [93] :: rest)) := by simp
 rw [e0]
 simp only [step, show sigB 46 (sgT [91] :: (us ++ (sgT [93] :: rest))) = false from rfl, show sigB 91 (sgT [91] :: (us ++ (sgT [93] :: rest))) = true from rfl, List.tail_cons, ↓reduceIte, Bool.false_eq_true]
 refine Ans.bnd (Ans.rec (h4.2 (sgT [93] :: rest) (end_close 93 rest (by decide)))) ?_
 exact Ans.rec hp
theorem xg_list {vs : List Ex} (h : ∀ t ∈ vs, Xg t) : ∃ ts, Rd Nn ([91] ++ jn (vs.map textX) ++ [93]) ts ∧ Nd 10 (mE 5 ⟨#[]⟩ vs) ts := by
 obtain ⟨l, rfl, h1, h2⟩ := row_all h
 refine ⟨sgT [91] :: (rowT (l.map Prod.snd) ++ [sgT [93]]), ?_, Nd.of9 10 ⟨_, _, rfl, rfl⟩ fun rest least x _ hp => run_unary rfl rfl (Run.of ?_) hp⟩
 ·rw [List.append_assoc]
  exact ((rd_sign 91 (by decide) (by decide) (by decide)).app' (h1.appN (rd_sign 93 (by decide) (by decide) (by decide)) (by simp) rfl)).any
 ·have e0 : sgT [91] :: (rowT (l.map Prod.snd) ++ [sgT [93]]) ++ rest = sgT [91] :: (rowT (l.map Prod.snd) ++ (sgT [93] :: rest)) := by simp
  rw [e0]
  obtain ⟨r, hr⟩ : ∃ r, rowT (l.map Prod.snd) ++ (sgT [93] :: rest) = r := ⟨_, rfl⟩
  have h3 := run_list 93 (.inr rfl) rest l h2
  rw [hr] at h3 ⊢
  simp only [step, show (nx (sgT [91] :: r)).k = 5 from rfl, show wrd wNULL (sgT [91] :: r) = false from rfl, show (wrd wTRUE (sgT [91] :: r) || wrd wFALSE (sgT [91] :: r)) = false from rfl, show sigB 36 (sgT [91] :: r) = false from rfl, show sigB 40 (sgT [91] :: r) = false from rfl, show sigB 91 (sgT [91] :: r) = true from rfl, List.tail_cons]
  exact Ans.bnd (Ans.rec h3) Ans.ok
theorem xg_map {ks : List ByteArray} {vs : List Ex} (hl : ks.length = vs.length) (hk : ks.all keyB = true) (h : ∀ t ∈ vs, Xg t) : ∃ ts, Rd Nn ([123] ++ jn (withK ks (vs.map textX)) ++ [125]) ts ∧ Nd 10 (.mk 6 ⟨#[]⟩ emptyV ks vs) ts := by
 obtain ⟨r, h1, h2⟩ := props_all hl hk h
 refine ⟨_, h1.any, Nd.of9 10 ⟨_, _, rfl, rfl⟩ fun rest least x _ hp => run_unary rfl rfl (Run.of ?_) hp⟩
 have h3 := h2 rest
 obtain ⟨q, hq⟩ := nam (r ++ rest)
 rw [List.cons_append, hq] at h3 ⊢
 simp only [step, show (nx (sgT [123] :: q)).k = 5 from rfl, show wrd wNULL (sgT [123] :: q) = false from rfl, show (wrd wTRUE (sgT [123] :: q) || wrd wFALSE (sgT [123] :: q)) = false from rfl, show sigB 36 (sgT [123] :: q) = false from rfl, show sigB 40 (sgT [123] :: q) = false from rfl, show sigB 91 (sgT [123] :: q) = false from rfl, show sigB 123 (sgT [123] :: q) = true from rfl]
 exact Ans.bnd (Ans.rec h3) Ans.ok
theorem xg_neg {a : Ex} (ha : Xg a) : ∃ ts, Rd Nn ([45] ++ needX 8 a) ts ∧ Nd 8 (mE 8 ⟨#[]⟩ [a]) ts := by
 obtain ⟨ts, h1, h2⟩ := ha.need 8
 refine ⟨sgT [45] :: ts, (rd_sign 45 (by decide) (by decide) (by decide)).app' h1, Nd.of8 8 (by omega) ⟨_, _, rfl, rfl, rfl⟩ fun rest least hs => Run.of ?_⟩
 rw [List.cons_append]
 simp only [step, show wrd wNOT (sgT [45] :: (ts ++ rest)) = false from rfl, show sigB 45 (sgT [45] :: (ts ++ rest)) = true from rfl, List.tail_cons, Bool.false_eq_true, and_false, ↓reduceIte]
 exact Ans.bnd (Ans.rec (h2.un (by omega) rest 8 hs)) Ans.ok
theorem xg_not {a : Ex} (ha : Xg a) : ∃ ts, Rd Nn ([78, 79, 84, 32] ++ needX 4 a) ts ∧ Nd 4 (mE 9 ⟨#[]⟩ [a]) ts := by
 obtain ⟨ts, h1, h2⟩ := ha.need 4
 refine ⟨wdT wNOT :: ts, ?_, ⟨⟨_, _, rfl, rfl, fun h => by omega, fun h => by omega⟩, fun rest least x hl hs ho h4 => ?_, fun h => by omega, fun h => by omega⟩⟩
 ·have : Rd Any ([78, 79, 84] ++ [32]) ([wdT wNOT] ++ []) := fun r us _ h => ((rd_word wNOT (by decide)).appN rd_blank (by simp) rfl) r us trivial h
  exact this.app' h1
 ·have hp : pwT (nx rest) < 4 := by have := pw_ne4 (nx rest); unfold okp at ho; omega
  have e1 : wrd wNOT (wdT wNOT :: (ts ++ rest)) = true := rfl
  rw [List.cons_append]
  refine run_expr (r := rest) (t := mE 9 ⟨#[]⟩ [a]) (Run.of ?_) ?_
  ·simp only [step, e1, and_true, if_pos hl, List.tail_cons]
   exact Ans.bnd (Ans.rec (h2.ex rest 4 _ (by omega) hs ho fun m _ => run_stop (.inl hp))) Ans.ok
  ·rw [e1, if_pos ⟨hl, rfl⟩]
   exact h4 3 (by omega)
theorem loop_is {least m : Nat} {t : Ex} {r : List Tok} {x : Pr} (hl : least ≤ 5) (hm : 5 ≤ m) (h : Run (.loop least 4 (mE 11 ⟨#[]⟩ [t])) r x) : Run (.loop least m t) (wdT wIS :: wdT wNULL :: r) x := by
 refine Run.of ?_
 have e1 : pwT (nx (wdT wIS :: wdT wNULL :: r)) = 5 := show pwT (wdT wIS) = 5 by decide +kernel
 have e2 : (nx (wdT wIS :: wdT wNULL :: r)).t = wIS := rfl
 have e3 : wrd wNOT (wdT wNULL :: r) = false := rfl
 have e4 : wrd wNULL (wdT wNULL :: r) = true := rfl
 have hn : ¬ (5 < least ∨ 5 = 0 ∨ m < 5) := by omega
 simp only [step, e1, e2, List.tail_cons, e3, e4, must, hn, ↓reduceIte, Bool.false_eq_true]
 exact Ans.rec h
theorem loop_isnot {least m : Nat} {t : Ex} {r : List Tok} {x : Pr} (hl : least ≤ 5) (hm : 5 ≤ m) (h : Run (.loop least 4 (mE 12 ⟨#[]⟩ [t])) r x) : Run (.loop least m t) (wdT wIS :: wdT wNOT :: wdT wNULL :: r) x := by
 refine Run.of ?_
 have e1 : pwT (nx (wdT wIS :: wdT wNOT :: wdT wNULL :: r)) = 5 := show pwT (wdT wIS) = 5 by decide +kernel
 have e2 : (nx (wdT wIS :: wdT wNOT :: wdT wNULL :: r)).t = wIS := rfl
 have e3 : wrd wNOT (wdT wNOT :: wdT wNULL :: r) = true := rfl
 have e4 : wrd wNULL (wdT wNULL :: r) = true := rfl
 have hn : ¬ (5 < least ∨ 5 = 0 ∨ m < 5) := by omega
 simp only [step, e1, e2, List.tail_cons, e3, e4, must, hn, ↓reduceIte]
 exact Ans.rec h
theorem rd_wordB (W : List UInt8) (h : W ∈ wordsL) : Rd Any (W ++ [32]) [wdT W] := fun r us _ h1 => ((rd_word W h).appN rd_blank (by simp) rfl) r us trivial h1
theorem rd_Bword (W : List UInt8) (h : W ∈ wordsL) : Rd Nn ([32] ++ W) [wdT W] := rd_blank.app' (rd_word W h)
theorem nd_post {a : Ex} {ts us : List Tok} {u : Ex} (h2 : Nd 6 a ts) (hs : ∀ r, stopP (us ++ r)) (hp : ∀ r, pwT (nx (us ++ r)) = 5)
    (hl : ∀ (least m : Nat) (r : List Tok) (x : Pr), least ≤ 5 → 5 ≤ m → Run (.loop least 4 u) r x → Run (.loop least m a) (us ++ r) x) : Nd 5 u (ts ++ us) := by
 refine ⟨?_, fun rest least x hle hst ho h4 => ?_, fun h => by omega, fun h => by omega⟩
 ·obtain ⟨b, r, rfl, h5, -⟩ := h2.hd
  exact ⟨b, r ++ us, rfl, h5, fun h => by omega, fun h => by omega⟩
 ·rw [List.append_assoc]
  refine h2.ex (us ++ rest) least x (by omega) (hs rest) (by rw [hp rest]; unfold okp; omega) fun m hm => ?_
  rw [hp rest] at hm
  exact hl least m rest x hle hm (h4 4 (by unfold okp at ho; omega))
theorem xg_null {a : Ex} (ha : Xg a) : ∃ ts, Rd Nn (needX 6 a ++ [32, 73, 83, 32, 78, 85, 76, 76]) ts ∧ Nd 5 (mE 11 ⟨#[]⟩ [a]) ts := by
 obtain ⟨ts, h1, h2⟩ := ha.need 6
 have hr : Rd Nn ([32] ++ (([73, 83] ++ [32]) ++ [78, 85, 76, 76])) [wdT wIS, wdT wNULL] := rd_blank.app' ((rd_wordB wIS (by decide)).app' (rd_word wNULL (by decide)))
 exact ⟨ts ++ [wdT wIS, wdT wNULL], h1.appN hr (by simp) rfl, nd_post h2 (fun r => ⟨rfl, rfl, rfl, rfl⟩) (fun r => show pwT (wdT wIS) = 5 by decide +kernel) fun least m r x => loop_is⟩
theorem xg_some {a : Ex} (ha : Xg a) : ∃ ts, Rd Nn (needX 6 a ++ [32, 73, 83, 32, 78, 79, 84, 32, 78, 85, 76, 76]) ts ∧ Nd 5 (mE 12 ⟨#[]⟩ [a]) ts := by
 obtain ⟨ts, h1, h2⟩ := ha.need 6
 have hr : Rd Nn ([32] ++ (([73, 83] ++ [32]) ++ (([78, 79, 84] ++ [32]) ++ [78, 85, 76, 76]))) [wdT wIS, wdT wNOT, wdT wNULL] := rd_blank.app' ((rd_wordB wIS (by decide)).app' ((rd_wordB wNOT (by decide)).app' (rd_word wNULL (by decide))))
 exact ⟨ts ++ [wdT wIS, wdT wNOT, wdT wNULL], h1.appN hr (by simp) rfl, nd_post h2 (fun r => ⟨rfl, rfl, rfl, rfl⟩) (fun r => show pwT (wdT wIS) = 5 by decide +kernel) fun least m r x => loop_isnot⟩
theorem xg_bin {nm : ByteArray} {a b : Ex} (ha : Xg a) (hb : Xg b) (hl : 0 < levelB nm) : ∃ (c : Nat) (ts : List Tok), levelB nm = c ∧ 1 ≤ c ∧ Rd Nn (needX (if levelB nm = 5 then 6 else levelB nm) a ++ ([32] ++ nm.data.toList ++ [32]) ++ needX (levelB nm + 1) b) ts ∧ Nd c (mE 10 nm [a, b]) ts := by
 obtain ⟨tk, hr, h1, h2, h3, h4, h5⟩ := op_tok hl
 obtain ⟨n, hn⟩ := nam (pwT tk)
 rw [hn] at h1 h5
 obtain ⟨ts, a1, a2⟩ := ha.need (if n = 5 then 6 else n)
 obtain ⟨us, b1, b2⟩ := hb.need (n + 1)
 have e1 : (((if n = 5 then 6 else n : Nat)) : Int) = if levelB nm = 5 then 6 else levelB nm := by rw [h1]; split <;> split <;> omega
 have e2 : ((n + 1 : Nat) : Int) = levelB nm + 1 := by rw [h1]; rfl
 rw [e1] at a1
 rw [e2] at b1
 have hm : Rd Any ([32] ++ nm.data.toList ++ [32]) [tk] := fun r vs _ h => by
  have : Rd Any (nm.data.toList ++ [32]) ([tk] ++ []) := fun r vs _ h => (hr.app rd_blank (fun r _ => rfl)) r vs trivial h
  have h9 := rd_blank.app' this
  rw [← List.append_assoc] at h9
  exact h9 r vs trivial h
 refine ⟨n, ts ++ ([tk] ++ us), h1, h5, ?_, ⟨?_, fun rest least x hle hst ho h6 => ?_, fun h => ?_, fun h => ?_⟩⟩
 ·rw [List.append_assoc]
  exact a1.appN (hm.app' b1) (by simp) rfl
 ·obtain ⟨y, r, rfl, h6, -⟩ := a2.hd
  have := pw_le tk
  exact ⟨y, r ++ ([tk] ++ us), rfl, h6, fun h => by omega, fun h => by omega⟩
 ·have e3 : ts ++ ([tk] ++ us) ++ rest = ts ++ (tk :: (us ++ rest)) := by simp
  rw [e3]
  have hpn : pwT (nx (tk :: (us ++ rest))) = n := hn
  refine a2.ex (tk :: (us ++ rest)) least x (by split <;> omega) (h4 _) (by rw [hpn]; unfold okp; split <;> omega) fun m hm => Run.of ?_
  rw [hpn] at hm
  have hq : ¬ (n < least ∨ n = 0 ∨ m < n) := by omega
  have ht : (nx (tk :: (us ++ rest))).t = tk.t := rfl
  have hp : pwT (nx rest) ≤ n := by unfold okp at ho; omega
  simp only [step, hpn, hq, ht, h3, h2, List.tail_cons, ↓reduceIte]
  refine Ans.bnd (Ans.rec (b2.ex rest (n + 1) _ (by omega) hst (by unfold okp; omega) fun m' _ => run_stop (.inl (by omega)))) ?_
  exact Ans.rec (h6 _ (by unfold okp at ho; split <;> omega))
 ·have := pw_le tk; omega
 ·have := pw_le tk; omega
theorem xg_call {nm : ByteArray} {vs : List Ex} (hn : plainB nm = true) (hg : aggB nm = false) (h : ∀ t ∈ vs, Xg t) : ∃ ts, Rd Nn ((nm.data.toList ++ [40]) ++ jn (vs.map textX) ++ [41]) ts ∧ Nd 10 (mE 13 nm vs) ts := by
 obtain ⟨l, rfl, h1, h2⟩ := row_all h
 refine ⟨nmT nm.data.toList :: sgT [40] :: (rowT (l.map Prod.snd) ++ [sgT [41]]), ?_, Nd.of9 10 ⟨_, _, rfl, rfl⟩ fun rest least x _ hp => run_unary rfl rfl (Run.of ?_) hp⟩
 ·rw [List.append_assoc, List.append_assoc]
  exact ((rd_name hn).appN ((rd_sign 40 (by decide) (by decide) (by decide)).app' (h1.appN (rd_sign 41 (by decide) (by decide) (by decide)) (by simp) rfl)) (by simp) rfl).any
 ·have e0 : nmT nm.data.toList :: sgT [40] :: (rowT (l.map Prod.snd) ++ [sgT [41]]) ++ rest = nmT nm.data.toList :: sgT [40] :: (rowT (l.map Prod.snd) ++ (sgT [41] :: rest)) := by simp
  rw [e0]
  have h3 := run_list 41 (.inl rfl) rest l h2
  obtain ⟨r, hr⟩ : ∃ r, rowT (l.map Prod.snd) ++ (sgT [41] :: rest) = r := ⟨_, rfl⟩
  rw [hr] at h3 ⊢
  simp only [step, show (nx (nmT nm.data.toList :: sgT [40] :: r)).k = 1 from rfl, show (nx (nmT nm.data.toList :: sgT [40] :: r)).t = nm.data.toList from rfl, show strOf nm.data.toList = nm from rfl, hg, show sigB 40 (sgT [40] :: r) = true from rfl, List.tail_cons]
  exact Ans.bnd (Ans.rec h3) Ans.ok
theorem agg_plain {s : ByteArray} (h : aggB s = true) : plainB s = true := by
 unfold aggB at h
 simp only [Bool.or_eq_true] at h
 rcases h with (((h | h) | h) | h) | h <;> rw [(ba_is h).1] <;> decide +kernel
theorem xg_agg0 : ∃ ts, Rd Nn (wCount ++ [40, 42, 41]) ts ∧ Nd 10 (mE 14 (strOf wCount) []) ts := by
 refine ⟨[nmT wCount, sgT [40], sgT [42], sgT [41]], ?_, Nd.of9 10 ⟨_, _, rfl, rfl⟩ fun rest least x _ hp => run_unary rfl rfl (Run.of ?_) hp⟩
 ·have h1 : Rd Nn wCount [nmT wCount] := rd_name (s := strOf wCount) (by decide +kernel)
  have h2 := (rd_sign 40 (by decide) (by decide) (by decide)).app' ((rd_sign 42 (by decide) (by decide) (by decide)).app' (rd_sign 41 (by decide) (by decide) (by decide)))
  exact (h1.appN h2 (by simp) rfl).any
 ·have e0 : [nmT wCount, sgT [40], sgT [42], sgT [41]] ++ rest = nmT wCount :: sgT [40] :: sgT [42] :: sgT [41] :: rest := rfl
  rw [e0]
  simp only [step, show (nx (nmT wCount :: sgT [40] :: sgT [42] :: sgT [41] :: rest)).k = 1 from rfl, show (nx (nmT wCount :: sgT [40] :: sgT [42] :: sgT [41] :: rest)).t = wCount from rfl, show aggB (strOf wCount) = true from by decide +kernel, show sigB 40 (sgT [40] :: sgT [42] :: sgT [41] :: rest) = true from rfl, show sigB 42 (sgT [42] :: sgT [41] :: rest) = true from rfl, show sigB 41 (sgT [41] :: rest) = true from rfl, List.tail_cons, must]
  exact Ans.ok
theorem xg_agg1 {nm : ByteArray} {a : Ex} (hg : aggB nm = true) (ha : Xg a) : ∃ ts, Rd Nn ((nm.data.toList ++ [40]) ++ textX a ++ [41]) ts ∧ Nd 10 (mE 14 nm [a]) ts := by
 obtain ⟨us, h3, h4⟩ := ha.whole
 refine ⟨nmT nm.data.toList :: sgT [40] :: (us ++ [sgT [41]]), ?_, Nd.of9 10 ⟨_, _, rfl, rfl⟩ fun rest least x _ hp => run_unary rfl rfl (Run.of ?_) hp⟩
 ·rw [List.append_assoc, List.append_assoc]
  exact ((rd_name (agg_plain hg)).appN ((rd_sign 40 (by decide) (by decide) (by decide)).app' (h3.appN (rd_sign 41 (by decide) (by decide) (by decide)) (by simp) rfl)) (by simp) rfl).any
 ·have e0 : nmT nm.data.toList :: sgT [40] :: (us ++ [sgT [41]]) ++ rest = nmT nm.data.toList :: sgT [40] :: (us ++ (sgT [41] :: rest)) := by simp
  rw [e0]
  have h5 := h4.2 (sgT [41] :: rest) (end_close 41 rest (by decide))
  obtain ⟨b, q, hb, ho⟩ := h4.1
  have h42 : sigB 42 (us ++ (sgT [41] :: rest)) = false := by rw [hb]; exact open_close ho 42 (by decide)
  simp only [step, show (nx (nmT nm.data.toList :: sgT [40] :: (us ++ (sgT [41] :: rest)))).k = 1 from rfl, show (nx (nmT nm.data.toList :: sgT [40] :: (us ++ (sgT [41] :: rest)))).t = nm.data.toList from rfl, show strOf nm.data.toList = nm from rfl, hg, h42, show sigB 40 (sgT [40] :: (us ++ (sgT [41] :: rest))) = true from rfl, List.tail_cons, Bool.false_eq_true, and_false, ↓reduceIte]
  refine Ans.bnd (Ans.rec h5) ?_
  exact Ans.ok
theorem same_empty {v : Vt} (h : sameV v emptyV = true) : v = emptyV := (sameV_iff2 _ _).1 h
theorem az1 {az : List Ex} (h : ((az.length : Int) == 1) = true) : ∃ a, az = [a] := by
 match az, h with
 | [a], _ => exact ⟨a, rfl⟩
 | [], h => simp at h
 | a :: b :: r, h => simp at h; omega
theorem az2 {az : List Ex} (h : ((az.length : Int) == 2) = true) : ∃ a b, az = [a, b] := by
 match az, h with
 | [a, b], _ => exact ⟨a, b, rfl⟩
 | [], h => simp at h
 | [a], h => simp at h
 | a :: b :: c :: r, h => simp at h; omega
theorem az0 {az : List Ex} (h : ((az.length : Int) == 0) = true) : az = [] := by
 match az, h with
 | [], _ => rfl
 | a :: r, h => simp at h; omega
theorem nd1 (n : Int) (a : Ex) (r : List Ex) : ndT n (textXs (a :: r)) 0 = needX n a := ndT_get (by rfl) n
theorem nd2 (n : Int) (a b : Ex) (r : List Ex) : ndT n (textXs (a :: b :: r)) 1 = needX n b := ndT_get (by rfl) n
theorem xg_all : ∀ (d : Nat) (t : Ex), deepB d t = true → e64 t → Xg t
  | 0, t, h, _ => by rw [deepB] at h; cases h
  | d + 1, .mk op nm v ns az, h, h64 => by
    have hA : ∀ t ∈ az, Xg t := fun t ht => by
      rw [deepB, Bool.and_eq_true, List.all_eq_true] at h
      refine xg_all d t (h.2 t ht) ?_
      obtain ⟨k, b, i, s, l, ks⟩ := v
      rw [e64] at h64
      exact e64s_mem h64.2 t ht
    rw [deepB, Bool.and_eq_true, ownB, Bool.and_eq_true, Bool.and_eq_true] at h
    obtain ⟨⟨hnm, hv, hns⟩, -⟩ := h
    have hV : op ≠ 1 → v = emptyV := fun h1 => by
      rw [Bool.or_eq_true] at hv
      rcases hv with hv | hv
      · exact absurd (eq_of_beq hv) h1
      · exact same_empty hv
    have hS : op ≠ 6 → ns = [] := fun h1 => by
      rw [Bool.or_eq_true] at hns
      rcases hns with hv | hv
      · exact absurd (eq_of_beq hv) h1
      · exact List.length_eq_zero_iff.1 (of_decide_eq_true hv)
    clear hv hns
    unfold Xg
    rw [textX_eq]
    rcases named_no hnm with rfl | rfl | rfl | rfl | rfl | rfl | rfl | rfl | rfl | rfl | rfl | rfl | rfl | rfl | rfl
    all_goals (first | (have hv := hV (by decide); subst hv) | skip)
    all_goals (first | (have hs := hS (by decide); subst hs) | skip)
    all_goals rw [bodyX]; rw [namedB] at hnm; simp only [Int.reduceEq, reduceIte, Bool.and_eq_true] at hnm ⊢
    · obtain ⟨h1, h2, h3⟩ := hnm
      have e1 := (ba_nil h1).1; have e2 := az0 h2
      subst e1 e2
      obtain ⟨ts, a, b⟩ := xg_lit h3 h64
      exact ⟨10, ts, rfl, by decide, a, b⟩
    · obtain ⟨h1, h2⟩ := hnm
      have e2 := az0 h1
      subst e2
      obtain ⟨a, b⟩ := xg_name h2
      exact ⟨10, _, rfl, by decide, a, b⟩
    · obtain ⟨h1, h2⟩ := hnm
      have e2 := az0 h1
      subst e2
      obtain ⟨a, b⟩ := xg_param h2
      exact ⟨10, _, rfl, by decide, a, b⟩
    · obtain ⟨h1, h2⟩ := hnm
      obtain ⟨a, rfl⟩ := az1 h1
      rw [nd1]
      obtain ⟨ts, x, y⟩ := xg_prop (hA a (List.mem_cons_self ..)) h2
      exact ⟨9, ts, rfl, by decide, x, y⟩
    · obtain ⟨h1, h2, h3⟩ := hnm
      obtain ⟨a, rfl⟩ := az1 h1
      rw [nd1]
      obtain ⟨ts, x, y⟩ := xg_has (hA a (List.mem_cons_self ..)) h2 (eq_of_beq h3)
      exact ⟨9, ts, rfl, by decide, x, y⟩
    · have e1 := (ba_nil hnm).1
      subst e1
      rw [snd_textXs]
      obtain ⟨ts, x, y⟩ := xg_list hA
      exact ⟨10, ts, rfl, by decide, x, y⟩
    · obtain ⟨h1, h2, h3⟩ := hnm
      have e1 := (ba_nil h2).1
      subst e1
      rw [snd_textXs]
      obtain ⟨ts, x, y⟩ := xg_map (by have := eq_of_beq h3; omega) h1 hA
      exact ⟨10, ts, rfl, by decide, x, y⟩
    · obtain ⟨h1, h2⟩ := hnm
      have e1 := (ba_nil h1).1
      obtain ⟨a, b, rfl⟩ := az2 h2
      subst e1
      rw [nd1, show ((textXs [a, b]).getD 1 (10, [])).2 = textX b from by rw [textXs_map]; rfl]
      obtain ⟨ts, x, y⟩ := xg_at (hA a (by simp)) (hA b (by simp))
      exact ⟨9, ts, rfl, by decide, x, y⟩
    · obtain ⟨h1, h2⟩ := hnm
      have e1 := (ba_nil h1).1
      obtain ⟨a, rfl⟩ := az1 h2
      subst e1
      rw [nd1]
      obtain ⟨ts, x, y⟩ := xg_neg (hA a (by simp))
      exact ⟨8, ts, rfl, by decide, x, y⟩
    · obtain ⟨h1, h2⟩ := hnm
      have e1 := (ba_nil h1).1
      obtain ⟨a, rfl⟩ := az1 h2
      subst e1
      rw [nd1]
      obtain ⟨ts, x, y⟩ := xg_not (hA a (by simp))
      exact ⟨4, ts, rfl, by decide, x, y⟩
    · obtain ⟨h1, h2⟩ := hnm
      have e1 := (ba_nil h1).1
      obtain ⟨a, rfl⟩ := az1 h2
      subst e1
      rw [nd1]
      obtain ⟨ts, x, y⟩ := xg_null (hA a (by simp))
      exact ⟨5, ts, rfl, by decide, x, y⟩
    · obtain ⟨h1, h2⟩ := hnm
      have e1 := (ba_nil h1).1
      obtain ⟨a, rfl⟩ := az1 h2
      subst e1
      rw [nd1]
      obtain ⟨ts, x, y⟩ := xg_some (hA a (by simp))
      exact ⟨5, ts, rfl, by decide, x, y⟩
    · obtain ⟨h1, h2⟩ := hnm
      obtain ⟨a, b, rfl⟩ := az2 h1
      rw [nd1, nd2]
      obtain ⟨c, ts, x0, x1, x, y⟩ := xg_bin (hA a (by simp)) (hA b (by simp)) (of_decide_eq_true h2)
      exact ⟨c, ts, by rw [← x0]; rfl, x1, x, y⟩
    · obtain ⟨h1, h2⟩ := hnm
      rw [snd_textXs]
      obtain ⟨ts, x, y⟩ := xg_call h1 (by simpa using h2) hA
      exact ⟨10, ts, rfl, by decide, x, y⟩
    · rw [Bool.or_eq_true, Bool.and_eq_true, Bool.and_eq_true] at hnm
      rcases hnm with ⟨h1, h2⟩ | ⟨h1, h2⟩
      · obtain ⟨a, rfl⟩ := az1 h1
        rw [if_neg (by rw [textXs_map]; simp), snd_textXs]
        obtain ⟨ts, x, y⟩ := xg_agg1 h2 (hA a (by simp))
        refine ⟨10, ts, rfl, by decide, ?_, y⟩
        have : jn ([a].map textX) = textX a := by show Lib.join [textX a] [44, 32] = _; rw [Lib.join_cons]; simp [Lib.joinTail]
        rw [this]; exact x
      · have e2 := az0 h1
        obtain ⟨e3, e4⟩ := ba_is h2
        subst e2
        rw [if_pos (by rw [textXs_map]; rfl), e4, e3]
        obtain ⟨ts, x, y⟩ := xg_agg0
        exact ⟨10, ts, rfl, by decide, x, y⟩
end Go.Proofs.YtndhpdclpgemfaaGreat

/- The texts Lendlf, Joinl, Joinf, Tree6, Tree7, Tree8, Tree9, Tree10, Tree11 of this seat, one behind the other. Conditions: each says its own. -/
import Derived.Test.YtjoopjmcnkiieaaM4

/- lend: the right neighbour lends its first kid, both are forks. Conditions: the three nodes are there, apart. -/
namespace Go.Proofs.Ytjoopjmcnkiieaa
open Go.RowKit Go.Lib
set_option linter.unusedSimpArgs false
set_option linter.unusedVariables false

set_option maxRecDepth 100000 in
set_option maxHeartbeats 32000000 in
theorem lend_lf {w : World} {pn pa pb f t kk y : Nat} {n1 n2 n3 a1 a2 a3 b1 b2 b3 : Value} {Kn Ka Kb : List ByteArray} {Vn Va Vb : List Int} {Cn Ca Cb : List Nat} {x z : ByteArray}
    (hn : NodeAt w pn n1 n2 n3 Kn Vn Cn) (ha : NodeAt w pa a1 a2 a3 Ka Va Ca) (hb : NodeAt w pb b1 b2 b3 Kb Vb Cb) (hone : ∀ k, ow pn n1 n2 n3 k + ow pa a1 a2 a3 k + ow pb b1 b2 b3 k ≤ 1)
    (hf : Cn[f]? = some pa) (ht : Cn[t]? = some pb) (hsz : Kn.length ≤ 1000 ∧ Cn.length ≤ 1000 ∧ Ka.length ≤ 1000 ∧ Kb.length ≤ 1000 ∧ Cb.length ≤ 1000 ∧ Vb.length ≤ 1000 ∧ Ca.length ≤ 1000 ∧ Va.length ≤ 1000) (hft : ¬ f < t) (hA : Ka.length = kk + 1) (hCA : Ca.length = kk + 2) (hx : Ka[0]? = some x) (hy : Ca[0]? = some y) (hz : Kn[t]? = some z) :
    Calls Try.prog 62 #[.pointer (some ⟨pn, 0, none⟩), .int .i64 f, .int .i64 t] w (Lend3 pn pa pb n1 n2 n3 a1 a2 a3 b1 b2 b3 (Kn.set t x) Vn Cn (Ka.eraseIdx 0) Va (Ca.eraseIdx 0) (Kb ++ [z]) Vb (Cb ++ [y]) w) := by
  obtain ⟨an1, cn1, an2, cn2, an3, cn3, rfl, rfl, rfl, ln1, ln2, ln3, mn1, mn2, mn3⟩ := hn.forms
  obtain ⟨aa1, ca1, aa2, ca2, aa3, ca3, rfl, rfl, rfl, la1, la2, la3, ma1, ma2, ma3⟩ := ha.forms
  obtain ⟨ab1, cb1, ab2, cb2, ab3, cb3, rfl, rfl, rfl, lb1, lb2, lb3, mb1, mb2, mb3⟩ := hb.forms
  have T0 := Tri.start hn ha hb hone
  obtain ⟨g3, rfl, kf, _⟩ := hn.kid hf
  obtain ⟨g3', e3, kt, _⟩ := hn.kid ht
  injection e3 with e3
  injection e3 with e3 _
  subst e3
  have hfl := (List.getElem?_eq_some_iff.1 hf).1
  have htl := (List.getElem?_eq_some_iff.1 ht).1
  obtain ⟨ga, rfl, kx, _⟩ := ha.key hx
  obtain ⟨ga3, rfl, ky, _⟩ := ha.kid hy
  obtain ⟨gn, rfl, kz, fz⟩ := hn.key hz
  obtain ⟨Q, hQ⟩ : ∃ Q, Lend3 pn pa pb (.slice (some ⟨gn, 0, none⟩) Kn.length cn1) (.slice an2 Vn.length cn2) (.slice (some ⟨g3, 0, none⟩) Cn.length cn3) (.slice (some ⟨ga, 0, none⟩) Ka.length ca1) (.slice aa2 Va.length ca2) (.slice (some ⟨ga3, 0, none⟩) Ca.length ca3) (.slice ab1 Kb.length cb1) (.slice ab2 Vb.length cb2) (.slice ab3 Cb.length cb3) (Kn.set t x) Vn Cn (Ka.eraseIdx 0) Va (Ca.eraseIdx 0) (Kb ++ [z]) Vb (Cb ++ [y]) w = Q := ⟨_, rfl⟩
  have HQ := Lib.hid hQ
  rw [hQ]
  rw [hA] at T0 la1 hsz
  rw [hCA] at T0 la3 hsz
  generalize ekn : Kn.length = kn at *
  have Hkn := Lib.hid ekn
  clear ekn
  generalize evn : Vn.length = vn at *
  have Hvn := Lib.hid evn
  clear evn
  generalize ecnl : Cn.length = cnl at *
  have Hcnl := Lib.hid ecnl
  clear ecnl
  generalize eval : Va.length = val at *
  have Hval := Lib.hid eval
  clear eval
  generalize ekb : Kb.length = kb at *
  have Hkb := Lib.hid ekb
  clear ekb
  generalize evb : Vb.length = vb at *
  have Hvb := Lib.hid evb
  clear evb
  generalize ecbl : Cb.length = cbl at *
  have Hcbl := Lib.hid ecbl
  clear ecbl
  have hfl' : (f : Int) < cnl := by omega
  have htl' : (t : Int) < cnl := by omega
  have hf0 : (0 : Int) ≤ f := by omega
  have ht0 : (0 : Int) ≤ t := by omega
  obtain ⟨dn0, dn1, dn2, fn0, fn1, fn2⟩ := T0.n.cells
  obtain ⟨da0, da1, da2, fa0, fa1, fa2⟩ := T0.a.cells
  obtain ⟨db0, db1, db2, fb0, fb1, fb2⟩ := T0.b.cells
  have TT := Lib.hid T0
  have HONE := Lib.hid T0.one
  clear hn ha hb hone hf ht hQ fn0 fn1 fn2 fa0 fa1 fa2 fb0 fb1 fb2 T0
  go_enter Try.func62, Try.ntmps62
  go_wp2_with fail
  obtain ⟨iS, siS, szS, s1S, s2S⟩ := info_parts Try.infoS
  obtain ⟨iI, siI, szI, s1I, s2I⟩ := info_parts Try.infoI
  obtain ⟨iP, siP, szP, s1P, s2P⟩ := info_parts Try.infoP
  have HA := Lib.hid hA
  have HCA := Lib.hid hCA
  have HX := Lib.hid hx
  have HZ := Lib.hid hz
  have hfn := (List.getElem?_eq_some_iff.1 hz).1
  have HSZ : Hid (Kb.length ≤ 1000 ∧ Cb.length ≤ 1000) := Lib.hid (by have := Hkb.out; have := Hcbl.out; omega)
  have hlpa := TT.out.a.owns
  have hlpn := TT.out.n.owns
  have z0 : ow pb (.slice ab1 kb cb1) (.slice ab2 vb cb2) (.slice ab3 cbl cb3) pn = 0 := by have h1 := HONE.out pn; have h2 := hlpn.1; omega
  have z1 : ow pb (.slice ab1 kb cb1) (.slice ab2 vb cb2) (.slice ab3 cbl cb3) pa = 0 := by have h1 := HONE.out pa; have h2 := hlpa.1; omega
  have z2 : ow pb (.slice ab1 kb cb1) (.slice ab2 vb cb2) (.slice ab3 cbl cb3) gn = 0 := by have h1 := HONE.out gn; have h2 := hlpn.2.1 gn rfl; omega
  have z3 : ow pb (.slice ab1 kb cb1) (.slice ab2 vb cb2) (.slice ab3 cbl cb3) ga3 = 0 := by have h1 := HONE.out ga3; have h2 := hlpa.2.2.2 ga3 rfl; omega
  have HLF := Lib.hid (show Calls Try.prog 38 #[.pointer (some ⟨pa, 0, none⟩)] w.drew fun e w' => e = .returned (.bool false) ∧ w.drew = w' from by have := leaf_any TT.out.a.drew; rwa [show Ca.isEmpty = false from by cases Ca with | nil => simp at hCA | cons _ _ => rfl] at this)
  have HST := (St.start TT.out.b (fun k => by have := HONE.out k; omega)).drew.drew
  have hkk0 : (0 : Int) < (kk : Int) + 1 := by omega
  have hkk1 : (0 : Int) < (kk : Int) + 2 := by omega
  have hfn' : (t : Int) < kn := by have := Hkn.out; omega
  have ma1' : (ca1 : Int) ≤ 9223372036854775807 := by omega
  have ma2' : (ca3 : Int) ≤ 9223372036854775807 := by omega
  have hft2 : ¬ (f : Int) < t := by omega
  clear hA hCA hx hz hlpa hlpn hfn
  refine wp_region_noPanic ?_
  refine wp_region_J (S := fun u : World => u.cell? ⟨pn, 2, none⟩ = some (.slice (some ⟨g3, 0, none⟩) cnl cn3) ∧ u.cell? ⟨g3, f, none⟩ = some (.pointer (some ⟨pa, 0, none⟩)) ∧ u.cell? ⟨g3, t, none⟩ = some (.pointer (some ⟨pb, 0, none⟩))) (fun _ => false) (by kernel_rfl) ?_
  have hHeld : (fun u : World => u.cell? ⟨pn, 2, none⟩ = some (.slice (some ⟨g3, 0, none⟩) cnl cn3) ∧ u.cell? ⟨g3, f, none⟩ = some (.pointer (some ⟨pa, 0, none⟩)) ∧ u.cell? ⟨g3, t, none⟩ = some (.pointer (some ⟨pb, 0, none⟩))) w.drew := ⟨dn2, kf, kt⟩
  refine wpAnyJ_take0 (i := 0) (v := ?_) rfl (by kernel_rfl) (by kernel_rfl) (by kernel_rfl) (fun _ _ _ h => h) (Or.inl ⟨by rfl, ?_⟩) ?_
  rotate_left
  focus ((intro w hSw; clear hSw; go_simp); try with_reducible rfl)
  (try simp only [Act.put, List.getElem_toArray, List.getElem_cons_zero, List.getElem_cons_succ, List.setIfInBounds_toArray, List.set_cons_zero, List.set_cons_succ])
  refine wpAnyJ_take0 (i := 1) (v := ?_) rfl (by kernel_rfl) (by kernel_rfl) (by kernel_rfl) (fun _ _ _ h => h) (Or.inl ⟨by rfl, ?_⟩) ?_
  rotate_left
  focus ((intro w hSw; clear hSw; go_simp); try with_reducible rfl)
  (try simp only [Act.put, List.getElem_toArray, List.getElem_cons_zero, List.getElem_cons_succ, List.setIfInBounds_toArray, List.set_cons_zero, List.set_cons_succ])
  refine wpAnyJ_take0 (i := 2) (v := ?_) rfl (by kernel_rfl) (by kernel_rfl) (by kernel_rfl) (fun _ _ _ h => h) (Or.inl ⟨by rfl, ?_⟩) ?_
  rotate_left
  focus ((intro w hSw; clear hSw; go_simp); try with_reducible rfl)
  (try simp only [Act.put, List.getElem_toArray, List.getElem_cons_zero, List.getElem_cons_succ, List.setIfInBounds_toArray, List.set_cons_zero, List.set_cons_succ])
  refine wpAnyJ_take (i := 3) (v := ?_) rfl (by kernel_rfl) (by kernel_rfl) (by kernel_rfl) (by kernel_rfl) (fun _ _ _ h => h) (Or.inl ⟨by rfl, ?_⟩) (by assumption) ?_
  rotate_left
  focus ((intro w hSw; (try dsimp only at hSw); go_simp); try with_reducible rfl)
  (try simp only [Act.put, List.getElem_toArray, List.getElem_cons_zero, List.getElem_cons_succ, List.setIfInBounds_toArray, List.set_cons_zero, List.set_cons_succ])
  refine wpAnyJ_take0 (i := 4) (v := ?_) rfl (by kernel_rfl) (by kernel_rfl) (by kernel_rfl) (fun _ _ _ h => h) (Or.inl ⟨by rfl, ?_⟩) ?_
  rotate_left
  focus ((intro w hSw; clear hSw; go_simp); try with_reducible rfl)
  (try simp only [Act.put, List.getElem_toArray, List.getElem_cons_zero, List.getElem_cons_succ, List.setIfInBounds_toArray, List.set_cons_zero, List.set_cons_succ])
  refine wpAnyJ_take0 (i := 5) (v := ?_) rfl (by kernel_rfl) (by kernel_rfl) (by kernel_rfl) (fun _ _ _ h => h) (Or.inl ⟨by rfl, ?_⟩) ?_
  rotate_left
  focus ((intro w hSw; clear hSw; go_simp); try with_reducible rfl)
  (try simp only [Act.put, List.getElem_toArray, List.getElem_cons_zero, List.getElem_cons_succ, List.setIfInBounds_toArray, List.set_cons_zero, List.set_cons_succ])
  refine wpAnyJ_take (i := 6) (v := ?_) rfl (by kernel_rfl) (by kernel_rfl) (by kernel_rfl) (by kernel_rfl) (fun _ _ _ h => h) (Or.inl ⟨by rfl, ?_⟩) (by assumption) ?_
  rotate_left
  focus ((intro w hSw; (try dsimp only at hSw); go_simp); try with_reducible rfl)
  (try simp only [Act.put, List.getElem_toArray, List.getElem_cons_zero, List.getElem_cons_succ, List.setIfInBounds_toArray, List.set_cons_zero, List.set_cons_succ])
  refine wpAnyJ_take0 (i := 7) (v := ?_) rfl (by kernel_rfl) (by kernel_rfl) (by kernel_rfl) (fun _ _ _ h => h) (Or.inl ⟨by rfl, ?_⟩) ?_
  rotate_left
  focus ((intro w hSw; clear hSw; go_simp); try with_reducible rfl)
  (try simp only [Act.put, List.getElem_toArray, List.getElem_cons_zero, List.getElem_cons_succ, List.setIfInBounds_toArray, List.set_cons_zero, List.set_cons_succ])
  refine wpAnyJ_take0 (i := 8) (v := ?_) rfl (by kernel_rfl) (by kernel_rfl) (by kernel_rfl) (fun _ _ _ h => h) (Or.inl ⟨by rfl, ?_⟩) ?_
  rotate_left
  focus ((intro w hSw; clear hSw; go_simp); try with_reducible rfl)
  (try simp only [Act.put, List.getElem_toArray, List.getElem_cons_zero, List.getElem_cons_succ, List.setIfInBounds_toArray, List.set_cons_zero, List.set_cons_succ])
  refine wpAnyJ_take0 (i := 9) (v := ?_) rfl (by kernel_rfl) (by kernel_rfl) (by kernel_rfl) (fun _ _ _ h => h) (Or.inl ⟨by rfl, ?_⟩) ?_
  rotate_left
  focus ((intro w hSw; clear hSw; go_simp); try with_reducible rfl)
  (try simp only [Act.put, List.getElem_toArray, List.getElem_cons_zero, List.getElem_cons_succ, List.setIfInBounds_toArray, List.set_cons_zero, List.set_cons_succ])
  refine wpAnyJ_take (i := 10) (v := ?_) rfl (by kernel_rfl) (by kernel_rfl) (by kernel_rfl) (by kernel_rfl) (fun _ _ _ h => h) (Or.inl ⟨by rfl, ?_⟩) (by assumption) ?_
  rotate_left
  focus ((intro w hSw; (try dsimp only at hSw); go_simp); try with_reducible rfl)
  (try simp only [Act.put, List.getElem_toArray, List.getElem_cons_zero, List.getElem_cons_succ, List.setIfInBounds_toArray, List.set_cons_zero, List.set_cons_succ])
  refine wpAnyJ_take0 (i := 11) (v := ?_) rfl (by kernel_rfl) (by kernel_rfl) (by kernel_rfl) (fun _ _ _ h => h) (Or.inl ⟨by rfl, ?_⟩) ?_
  rotate_left
  focus ((intro w hSw; clear hSw; go_simp); try with_reducible rfl)
  (try simp only [Act.put, List.getElem_toArray, List.getElem_cons_zero, List.getElem_cons_succ, List.setIfInBounds_toArray, List.set_cons_zero, List.set_cons_succ])
  refine wpAnyJ_take0 (i := 12) (v := ?_) rfl (by kernel_rfl) (by kernel_rfl) (by kernel_rfl) (fun _ _ _ h => h) (Or.inl ⟨by rfl, ?_⟩) ?_
  rotate_left
  focus ((intro w hSw; clear hSw; go_simp); try with_reducible rfl)
  (try simp only [Act.put, List.getElem_toArray, List.getElem_cons_zero, List.getElem_cons_succ, List.setIfInBounds_toArray, List.set_cons_zero, List.set_cons_succ])
  refine wpAnyJ_take (i := 13) (v := ?_) rfl (by kernel_rfl) (by kernel_rfl) (by kernel_rfl) (by kernel_rfl) (fun _ _ _ h => h) (Or.inl ⟨by rfl, ?_⟩) (by assumption) ?_
  rotate_left
  focus ((intro w hSw; (try dsimp only at hSw); go_simp); try with_reducible rfl)
  (try simp only [Act.put, List.getElem_toArray, List.getElem_cons_zero, List.getElem_cons_succ, List.setIfInBounds_toArray, List.set_cons_zero, List.set_cons_succ])
  refine wpAnyJ_take0 (i := 14) (v := ?_) rfl (by kernel_rfl) (by kernel_rfl) (by kernel_rfl) (fun _ _ _ h => h) (Or.inl ⟨by rfl, ?_⟩) ?_
  rotate_left
  focus ((intro w hSw; clear hSw; go_simp); try with_reducible rfl)
  (try simp only [Act.put, List.getElem_toArray, List.getElem_cons_zero, List.getElem_cons_succ, List.setIfInBounds_toArray, List.set_cons_zero, List.set_cons_succ])
  refine wpAnyJ_take0 (i := 15) (v := ?_) rfl (by kernel_rfl) (by kernel_rfl) (by kernel_rfl) (fun _ _ _ h => h) (Or.inl ⟨by rfl, ?_⟩) ?_
  rotate_left
  focus ((intro w hSw; clear hSw; go_simp); try with_reducible rfl)
  (try simp only [Act.put, List.getElem_toArray, List.getElem_cons_zero, List.getElem_cons_succ, List.setIfInBounds_toArray, List.set_cons_zero, List.set_cons_succ])
  refine wpAnyJ_done (by kernel_rfl) ?_ _
  refine NoPanic.normal ?_
  go_wp2_with fail
  refine HLF.out.mono ?_
  rintro e w' ⟨rfl, rfl⟩
  clear HLF dn1 dn2 db0 db1 db2 kf kt
  go_wp2_with fail
  refine wp_region_noPanic ?_
  refine wp_region_J (S := fun u : World => u.cell? ⟨pb, 0, none⟩ = some (.slice ab1 kb cb1) ∧ u.cell? ⟨pb, 2, none⟩ = some (.slice ab3 cbl cb3) ∧ u.cell? ⟨pn, 0, none⟩ = some (.slice (some ⟨gn, 0, none⟩) kn cn1) ∧ u.cell? ⟨gn, t, none⟩ = some (.string z) ∧ u.cell? ⟨pa, 2, none⟩ = some (.slice (some ⟨ga3, 0, none⟩) (kk + 2) ca3) ∧ u.cell? ⟨ga3, 0, none⟩ = some (.pointer (some ⟨y, 0, none⟩))) (fun j => j == 29 || j == 32) (by kernel_rfl) ?_
  obtain ⟨u0, hu0⟩ : ∃ u, w.drew.drew = u := ⟨_, rfl⟩
  rw [hu0] at HST ⊢
  clear hu0
  have hHeld : (fun u : World => u.cell? ⟨pb, 0, none⟩ = some (.slice ab1 kb cb1) ∧ u.cell? ⟨pb, 2, none⟩ = some (.slice ab3 cbl cb3) ∧ u.cell? ⟨pn, 0, none⟩ = some (.slice (some ⟨gn, 0, none⟩) kn cn1) ∧ u.cell? ⟨gn, t, none⟩ = some (.string z) ∧ u.cell? ⟨pa, 2, none⟩ = some (.slice (some ⟨ga3, 0, none⟩) (kk + 2) ca3) ∧ u.cell? ⟨ga3, 0, none⟩ = some (.pointer (some ⟨y, 0, none⟩))) u0 := ⟨HST.cell.1, HST.cell.2.2.1, HST.other dn0 z0, HST.other kz z2, HST.other da2 z1, HST.other ky z3⟩
  refine wpAnyJ_take0 (i := 0) (v := ?_) rfl (by kernel_rfl) (by kernel_rfl) (by kernel_rfl) (fun _ _ _ h => h) (Or.inl ⟨by rfl, ?_⟩) ?_
  rotate_left
  focus ((intro w hSw; clear hSw; go_simp); try with_reducible rfl)
  (try simp only [Act.put, List.getElem_toArray, List.getElem_cons_zero, List.getElem_cons_succ, List.setIfInBounds_toArray, List.set_cons_zero, List.set_cons_succ])
  refine wpAnyJ_take0 (i := 1) (v := ?_) rfl (by kernel_rfl) (by kernel_rfl) (by kernel_rfl) (fun _ _ _ h => h) (Or.inl ⟨by rfl, ?_⟩) ?_
  rotate_left
  focus ((intro w hSw; clear hSw; go_simp); try with_reducible rfl)
  (try simp only [Act.put, List.getElem_toArray, List.getElem_cons_zero, List.getElem_cons_succ, List.setIfInBounds_toArray, List.set_cons_zero, List.set_cons_succ])
  refine wpAnyJ_take0 (i := 2) (v := ?_) rfl (by kernel_rfl) (by kernel_rfl) (by kernel_rfl) (fun _ _ _ h => h) (Or.inl ⟨by rfl, ?_⟩) ?_
  rotate_left
  focus ((intro w hSw; clear hSw; go_simp); try with_reducible rfl)
  (try simp only [Act.put, List.getElem_toArray, List.getElem_cons_zero, List.getElem_cons_succ, List.setIfInBounds_toArray, List.set_cons_zero, List.set_cons_succ])
  refine wpAnyJ_take0 (i := 3) (v := ?_) rfl (by kernel_rfl) (by kernel_rfl) (by kernel_rfl) (fun _ _ _ h => h) (Or.inl ⟨by rfl, ?_⟩) ?_
  rotate_left
  focus ((intro w hSw; clear hSw; go_simp); try with_reducible rfl)
  (try simp only [Act.put, List.getElem_toArray, List.getElem_cons_zero, List.getElem_cons_succ, List.setIfInBounds_toArray, List.set_cons_zero, List.set_cons_succ])
  refine wpAnyJ_take0 (i := 4) (v := ?_) rfl (by kernel_rfl) (by kernel_rfl) (by kernel_rfl) (fun _ _ _ h => h) (Or.inl ⟨by rfl, ?_⟩) ?_
  rotate_left
  focus ((intro w hSw; clear hSw; go_simp); try with_reducible rfl)
  (try simp only [Act.put, List.getElem_toArray, List.getElem_cons_zero, List.getElem_cons_succ, List.setIfInBounds_toArray, List.set_cons_zero, List.set_cons_succ])
  refine wpAnyJ_take (i := 5) (v := ?_) rfl (by kernel_rfl) (by kernel_rfl) (by kernel_rfl) (by kernel_rfl) (fun _ _ _ h => h) (Or.inl ⟨by rfl, ?_⟩) (by assumption) ?_
  rotate_left
  focus ((intro w hSw; (try dsimp only at hSw); go_simp); try with_reducible rfl)
  (try simp only [Act.put, List.getElem_toArray, List.getElem_cons_zero, List.getElem_cons_succ, List.setIfInBounds_toArray, List.set_cons_zero, List.set_cons_succ])
  refine wpAnyJ_take0 (i := 6) (v := ?_) rfl (by kernel_rfl) (by kernel_rfl) (by kernel_rfl) (fun _ _ _ h => h) (Or.inl ⟨by rfl, ?_⟩) ?_
  rotate_left
  focus ((intro w hSw; clear hSw; go_simp); try with_reducible rfl)
  (try simp only [Act.put, List.getElem_toArray, List.getElem_cons_zero, List.getElem_cons_succ, List.setIfInBounds_toArray, List.set_cons_zero, List.set_cons_succ])
  refine wpAnyJ_take0 (i := 7) (v := ?_) rfl (by kernel_rfl) (by kernel_rfl) (by kernel_rfl) (fun _ _ _ h => h) (Or.inl ⟨by rfl, ?_⟩) ?_
  rotate_left
  focus ((intro w hSw; clear hSw; go_simp); try with_reducible rfl)
  (try simp only [Act.put, List.getElem_toArray, List.getElem_cons_zero, List.getElem_cons_succ, List.setIfInBounds_toArray, List.set_cons_zero, List.set_cons_succ])
  refine wpAnyJ_take0 (i := 8) (v := ?_) rfl (by kernel_rfl) (by kernel_rfl) (by kernel_rfl) (fun _ _ _ h => h) (Or.inl ⟨by rfl, ?_⟩) ?_
  rotate_left
  focus ((intro w hSw; clear hSw; go_simp); try with_reducible rfl)
  (try simp only [Act.put, List.getElem_toArray, List.getElem_cons_zero, List.getElem_cons_succ, List.setIfInBounds_toArray, List.set_cons_zero, List.set_cons_succ])
  refine wpAnyJ_take (i := 9) (v := ?_) rfl (by kernel_rfl) (by kernel_rfl) (by kernel_rfl) (by kernel_rfl) (fun _ _ _ h => h) (Or.inl ⟨by rfl, ?_⟩) (by assumption) ?_
  rotate_left
  focus ((intro w hSw; (try dsimp only at hSw); go_simp); try with_reducible rfl)
  (try simp only [Act.put, List.getElem_toArray, List.getElem_cons_zero, List.getElem_cons_succ, List.setIfInBounds_toArray, List.set_cons_zero, List.set_cons_succ])
  refine wpAnyJ_take0 (i := 10) (v := ?_) rfl (by kernel_rfl) (by kernel_rfl) (by kernel_rfl) (fun _ _ _ h => h) (Or.inl ⟨by rfl, ?_⟩) ?_
  rotate_left
  focus ((intro w hSw; clear hSw; go_simp); try with_reducible rfl)
  (try simp only [Act.put, List.getElem_toArray, List.getElem_cons_zero, List.getElem_cons_succ, List.setIfInBounds_toArray, List.set_cons_zero, List.set_cons_succ])
  refine wpAnyJ_take0 (i := 11) (v := ?_) rfl (by kernel_rfl) (by kernel_rfl) (by kernel_rfl) (fun _ _ _ h => h) (Or.inl ⟨by rfl, ?_⟩) ?_
  rotate_left
  focus ((intro w hSw; clear hSw; go_simp); try with_reducible rfl)
  (try simp only [Act.put, List.getElem_toArray, List.getElem_cons_zero, List.getElem_cons_succ, List.setIfInBounds_toArray, List.set_cons_zero, List.set_cons_succ])
  refine wpAnyJ_take (i := 12) (v := ?_) rfl (by kernel_rfl) (by kernel_rfl) (by kernel_rfl) (by kernel_rfl) (fun _ _ _ h => h) (Or.inl ⟨by rfl, ?_⟩) (by assumption) ?_
  rotate_left
  focus ((intro w hSw; (try dsimp only at hSw); go_simp); try with_reducible rfl)
  (try simp only [Act.put, List.getElem_toArray, List.getElem_cons_zero, List.getElem_cons_succ, List.setIfInBounds_toArray, List.set_cons_zero, List.set_cons_succ])
  refine wpAnyJ_take0 (i := 15) (v := ?_) rfl (by kernel_rfl) (by kernel_rfl) (by kernel_rfl) (fun _ _ _ h => h) (Or.inl ⟨by rfl, ?_⟩) ?_
  rotate_left
  focus ((intro w hSw; clear hSw; go_simp); try with_reducible rfl)
  (try simp only [Act.put, List.getElem_toArray, List.getElem_cons_zero, List.getElem_cons_succ, List.setIfInBounds_toArray, List.set_cons_zero, List.set_cons_succ])
  refine wpAnyJ_take0 (i := 16) (v := ?_) rfl (by kernel_rfl) (by kernel_rfl) (by kernel_rfl) (fun _ _ _ h => h) (Or.inl ⟨by rfl, ?_⟩) ?_
  rotate_left
  focus ((intro w hSw; clear hSw; go_simp); try with_reducible rfl)
  (try simp only [Act.put, List.getElem_toArray, List.getElem_cons_zero, List.getElem_cons_succ, List.setIfInBounds_toArray, List.set_cons_zero, List.set_cons_succ])
  refine wpAnyJ_take0 (i := 17) (v := ?_) rfl (by kernel_rfl) (by kernel_rfl) (by kernel_rfl) (fun _ _ _ h => h) (Or.inl ⟨by rfl, ?_⟩) ?_
  rotate_left
  focus ((intro w hSw; clear hSw; go_simp); try with_reducible rfl)
  (try simp only [Act.put, List.getElem_toArray, List.getElem_cons_zero, List.getElem_cons_succ, List.setIfInBounds_toArray, List.set_cons_zero, List.set_cons_succ])
  refine wpAnyJ_take (i := 18) (v := ?_) rfl (by kernel_rfl) (by kernel_rfl) (by kernel_rfl) (by kernel_rfl) (fun _ _ _ h => h) (Or.inl ⟨by rfl, ?_⟩) (by assumption) ?_
  rotate_left
  focus ((intro w hSw; (try dsimp only at hSw); go_simp); try with_reducible rfl)
  (try simp only [Act.put, List.getElem_toArray, List.getElem_cons_zero, List.getElem_cons_succ, List.setIfInBounds_toArray, List.set_cons_zero, List.set_cons_succ])
  refine wpAnyJ_take0 (i := 19) (v := ?_) rfl (by kernel_rfl) (by kernel_rfl) (by kernel_rfl) (fun _ _ _ h => h) (Or.inl ⟨by rfl, ?_⟩) ?_
  rotate_left
  focus ((intro w hSw; clear hSw; go_simp); try with_reducible rfl)
  (try simp only [Act.put, List.getElem_toArray, List.getElem_cons_zero, List.getElem_cons_succ, List.setIfInBounds_toArray, List.set_cons_zero, List.set_cons_succ])
  refine wpAnyJ_take0 (i := 20) (v := ?_) rfl (by kernel_rfl) (by kernel_rfl) (by kernel_rfl) (fun _ _ _ h => h) (Or.inl ⟨by rfl, ?_⟩) ?_
  rotate_left
  focus ((intro w hSw; clear hSw; go_simp); try with_reducible rfl)
  (try simp only [Act.put, List.getElem_toArray, List.getElem_cons_zero, List.getElem_cons_succ, List.setIfInBounds_toArray, List.set_cons_zero, List.set_cons_succ])
  refine wpAnyJ_take0 (i := 21) (v := ?_) rfl (by kernel_rfl) (by kernel_rfl) (by kernel_rfl) (fun _ _ _ h => h) (Or.inl ⟨by rfl, ?_⟩) ?_
  rotate_left
  focus ((intro w hSw; clear hSw; go_simp); try with_reducible rfl)
  (try simp only [Act.put, List.getElem_toArray, List.getElem_cons_zero, List.getElem_cons_succ, List.setIfInBounds_toArray, List.set_cons_zero, List.set_cons_succ])
  refine wpAnyJ_take (i := 22) (v := ?_) rfl (by kernel_rfl) (by kernel_rfl) (by kernel_rfl) (by kernel_rfl) (fun _ _ _ h => h) (Or.inl ⟨by rfl, ?_⟩) (by assumption) ?_
  rotate_left
  focus ((intro w hSw; (try dsimp only at hSw); go_simp); try with_reducible rfl)
  (try simp only [Act.put, List.getElem_toArray, List.getElem_cons_zero, List.getElem_cons_succ, List.setIfInBounds_toArray, List.set_cons_zero, List.set_cons_succ])
  refine wpAnyJ_take0 (i := 23) (v := ?_) rfl (by kernel_rfl) (by kernel_rfl) (by kernel_rfl) (fun _ _ _ h => h) (Or.inl ⟨by rfl, ?_⟩) ?_
  rotate_left
  focus ((intro w hSw; clear hSw; go_simp); try with_reducible rfl)
  (try simp only [Act.put, List.getElem_toArray, List.getElem_cons_zero, List.getElem_cons_succ, List.setIfInBounds_toArray, List.set_cons_zero, List.set_cons_succ])
  refine wpAnyJ_take (i := 24) (v := ?_) rfl (by kernel_rfl) (by kernel_rfl) (by kernel_rfl) (by kernel_rfl) (fun _ _ _ h => h) (Or.inl ⟨by rfl, ?_⟩) (by assumption) ?_
  rotate_left
  focus ((intro w hSw; (try dsimp only at hSw); go_simp); try with_reducible rfl)
  (try simp only [Act.put, List.getElem_toArray, List.getElem_cons_zero, List.getElem_cons_succ, List.setIfInBounds_toArray, List.set_cons_zero, List.set_cons_succ])
  refine wpAnyJ_ready (rs := [13, 25]) (by kernel_rfl) (by simp) ?_
  refine AllReadyJ.cons rfl (fun KK hKK => ?_) (AllReadyJ.cons rfl (fun KK hKK => ?_) AllReadyJ.nil)
  · go_simp
    replace HST := HST.alloc (.string z) 9
    have hH2 : (fun u : World => u.cell? ⟨pb, 0, none⟩ = some (.slice ab1 kb cb1) ∧ u.cell? ⟨pb, 2, none⟩ = some (.slice ab3 cbl cb3) ∧ u.cell? ⟨pn, 0, none⟩ = some (.slice (some ⟨gn, 0, none⟩) kn cn1) ∧ u.cell? ⟨gn, t, none⟩ = some (.string z) ∧ u.cell? ⟨pa, 2, none⟩ = some (.slice (some ⟨ga3, 0, none⟩) (kk + 2) ca3) ∧ u.cell? ⟨ga3, 0, none⟩ = some (.pointer (some ⟨y, 0, none⟩))) (u0.alloc (.cells #[.string z] 9)) := ⟨HST.cell.1, HST.cell.2.2.1, HST.other dn0 z0, HST.other kz z2, HST.other da2 z1, HST.other ky z3⟩
    refine hKK.out _ _ (fun _ _ => hH2) ?_
    clear hKK KK
    generalize u0.heap.size = vb1 at HST ⊢
    generalize u0.alloc (.cells #[.string z] 9) = u1 at HST hH2 ⊢
    clear hHeld
    have hHeld := hH2
    clear hH2
    clear u0
    revert u1
    intro u0 HST hHeld
    (try simp only [Act.put, List.getElem_toArray, List.getElem_cons_zero, List.getElem_cons_succ, List.setIfInBounds_toArray, List.set_cons_zero, List.set_cons_succ])
    refine wpAnyJ_ready (rs := [14, 25]) (by kernel_rfl) (by simp) ?_
    refine AllReadyJ.cons rfl (fun KK hKK => ?_) (AllReadyJ.cons rfl (fun KK hKK => ?_) AllReadyJ.nil)
    · refine step_append_arr (by rfl) _ _ 27 (by rfl) Try.underlying27 siS szS s1S s2S rfl (by decide) _ _ _ ((Kb).map Value.string) (by rfl) HST.r1 (str_one _) (some ⟨vb1, 0, none⟩) (1) 1 _ (([z]).map Value.string) (by rfl) (by simp) (str_one _) (fun h => by cases h) (HST.one (t := 9) (by simp)) (by have := HSZ.out.1; simp; omega) ?_
      intro x1 c1 u1 h1 h2 h3
      have HST2 := HST.row1 h2 h3 (by rw [← List.map_append] at h1; exact h1)
      clear h1 h2 h3 HST
      have HST := HST2
      clear HST2
      have hH2 : (fun u : World => u.cell? ⟨pb, 0, none⟩ = some (.slice ab1 kb cb1) ∧ u.cell? ⟨pb, 2, none⟩ = some (.slice ab3 cbl cb3) ∧ u.cell? ⟨pn, 0, none⟩ = some (.slice (some ⟨gn, 0, none⟩) kn cn1) ∧ u.cell? ⟨gn, t, none⟩ = some (.string z) ∧ u.cell? ⟨pa, 2, none⟩ = some (.slice (some ⟨ga3, 0, none⟩) (kk + 2) ca3) ∧ u.cell? ⟨ga3, 0, none⟩ = some (.pointer (some ⟨y, 0, none⟩))) u1 := ⟨HST.cell.1, HST.cell.2.2.1, HST.other dn0 z0, HST.other kz z2, HST.other da2 z1, HST.other ky z3⟩
      refine hKK.out _ _ (fun _ _ => hH2) ?_
      clear hKK KK
      clear hHeld
      have hHeld := hH2
      clear hH2 u0
      revert u1
      intro u0 HST hHeld
      (try simp only [Act.put, List.getElem_toArray, List.getElem_cons_zero, List.getElem_cons_succ, List.setIfInBounds_toArray, List.set_cons_zero, List.set_cons_succ])
      refine wpAnyJ_ready (rs := [25]) (by kernel_rfl) (by simp) ?_
      refine AllReadyJ.cons rfl (fun KK hKK => ?_) AllReadyJ.nil
      go_simp
      replace HST := HST.alloc (.pointer (some ⟨y, 0, none⟩)) 61
      have hH2 : (fun u : World => u.cell? ⟨pb, 0, none⟩ = some (.slice ab1 kb cb1) ∧ u.cell? ⟨pb, 2, none⟩ = some (.slice ab3 cbl cb3) ∧ u.cell? ⟨pn, 0, none⟩ = some (.slice (some ⟨gn, 0, none⟩) kn cn1) ∧ u.cell? ⟨gn, t, none⟩ = some (.string z) ∧ u.cell? ⟨pa, 2, none⟩ = some (.slice (some ⟨ga3, 0, none⟩) (kk + 2) ca3) ∧ u.cell? ⟨ga3, 0, none⟩ = some (.pointer (some ⟨y, 0, none⟩))) (u0.alloc (.cells #[.pointer (some ⟨y, 0, none⟩)] 61)) := ⟨HST.cell.1, HST.cell.2.2.1, HST.other dn0 z0, HST.other kz z2, HST.other da2 z1, HST.other ky z3⟩
      refine hKK.out _ _ (fun _ _ => hH2) ?_
      clear hKK KK
      generalize u0.heap.size = vb2 at HST ⊢
      generalize u0.alloc (.cells #[.pointer (some ⟨y, 0, none⟩)] 61) = u1 at HST hH2 ⊢
      clear hHeld
      have hHeld := hH2
      clear hH2
      clear u0
      revert u1
      intro u0 HST hHeld
      (try simp only [Act.put, List.getElem_toArray, List.getElem_cons_zero, List.getElem_cons_succ, List.setIfInBounds_toArray, List.set_cons_zero, List.set_cons_succ])
      refine wpAnyJ_ready (rs := [26]) (by kernel_rfl) (by simp) ?_
      refine AllReadyJ.cons rfl (fun KK hKK => ?_) AllReadyJ.nil
      refine step_append_arr (by rfl) _ _ 67 (by rfl) Try.underlying67 siP szP s1P s2P rfl (by decide) _ _ _ ((Cb).map ptrV) (by rfl) HST.r3 (ptr_one _) (some ⟨vb2, 0, none⟩) (1) 1 _ (([y]).map ptrV) (by rfl) (by simp) (ptr_one _) (fun h => by cases h) (HST.one (t := 61) (by simp [ptrV])) (by have := HSZ.out.2; simp; omega) ?_
      intro x2 c2 u1 h1 h2 h3
      have HST2 := HST.row3 h2 h3 (by rw [← List.map_append] at h1; exact h1)
      clear h1 h2 h3 HST
      have HST := HST2
      clear HST2
      have hH2 : (fun u : World => u.cell? ⟨pb, 0, none⟩ = some (.slice ab1 kb cb1) ∧ u.cell? ⟨pb, 2, none⟩ = some (.slice ab3 cbl cb3) ∧ u.cell? ⟨pn, 0, none⟩ = some (.slice (some ⟨gn, 0, none⟩) kn cn1) ∧ u.cell? ⟨gn, t, none⟩ = some (.string z) ∧ u.cell? ⟨pa, 2, none⟩ = some (.slice (some ⟨ga3, 0, none⟩) (kk + 2) ca3) ∧ u.cell? ⟨ga3, 0, none⟩ = some (.pointer (some ⟨y, 0, none⟩))) u1 := ⟨HST.cell.1, HST.cell.2.2.1, HST.other dn0 z0, HST.other kz z2, HST.other da2 z1, HST.other ky z3⟩
      refine hKK.out _ _ (fun _ _ => hH2) ?_
      clear hKK KK
      clear hHeld
      have hHeld := hH2
      clear hH2 u0
      revert u1
      intro u0 HST hHeld
      (try simp only [Act.put, List.getElem_toArray, List.getElem_cons_zero, List.getElem_cons_succ, List.setIfInBounds_toArray, List.set_cons_zero, List.set_cons_succ])
      refine wpAnyJ_take0 (i := 27) (v := ?_) rfl (by kernel_rfl) (by kernel_rfl) (by kernel_rfl) (fun _ _ _ h => h) (Or.inl ⟨by rfl, ?_⟩) ?_
      rotate_left
      focus ((intro w hSw; clear hSw; go_simp); try with_reducible rfl)
      (try simp only [Act.put, List.getElem_toArray, List.getElem_cons_zero, List.getElem_cons_succ, List.setIfInBounds_toArray, List.set_cons_zero, List.set_cons_succ])
      refine wpAnyJ_take0 (i := 28) (v := ?_) rfl (by kernel_rfl) (by kernel_rfl) (by kernel_rfl) (fun _ _ _ h => h) (Or.inl ⟨by rfl, ?_⟩) ?_
      rotate_left
      focus ((intro w hSw; clear hSw; go_simp); try with_reducible rfl)
      (try simp only [Act.put, List.getElem_toArray, List.getElem_cons_zero, List.getElem_cons_succ, List.setIfInBounds_toArray, List.set_cons_zero, List.set_cons_succ])
      refine wpAnyJ_ready (rs := [29]) (by kernel_rfl) (by simp) ?_
      refine AllReadyJ.cons rfl (fun KK hKK => ?_) AllReadyJ.nil
      have hz1 := HST.cell.2.2.2 0
      have hz2 := HST.cell.1
      go_simp
      clear hz1 hz2
      replace HST := HST.put0 (.slice x1 (kb + 1) c1)
      refine hKK.out _ _ (fun h => absurd h (by decide)) ?_
      clear hKK KK
      generalize u0.setCell ⟨pb, 0, none⟩ (.slice x1 (kb + 1) c1) = u1 at HST ⊢
      (try clear hHeld)
      clear u0
      revert u1
      intro u0 HST
      (try simp only [Act.put, List.getElem_toArray, List.getElem_cons_zero, List.getElem_cons_succ, List.setIfInBounds_toArray, List.set_cons_zero, List.set_cons_succ])
      refine wpAnyJ_take0 (i := 30) (v := ?_) rfl (by kernel_rfl) (by kernel_rfl) (by kernel_rfl) (fun _ _ _ h => h) (Or.inl ⟨by rfl, ?_⟩) ?_
      rotate_left
      focus ((intro w hSw; clear hSw; go_simp); try with_reducible rfl)
      (try simp only [Act.put, List.getElem_toArray, List.getElem_cons_zero, List.getElem_cons_succ, List.setIfInBounds_toArray, List.set_cons_zero, List.set_cons_succ])
      refine wpAnyJ_take0 (i := 31) (v := ?_) rfl (by kernel_rfl) (by kernel_rfl) (by kernel_rfl) (fun _ _ _ h => h) (Or.inl ⟨by rfl, ?_⟩) ?_
      rotate_left
      focus ((intro w hSw; clear hSw; go_simp); try with_reducible rfl)
      (try simp only [Act.put, List.getElem_toArray, List.getElem_cons_zero, List.getElem_cons_succ, List.setIfInBounds_toArray, List.set_cons_zero, List.set_cons_succ])
      refine wpAnyJ_ready (rs := [32]) (by kernel_rfl) (by simp) ?_
      refine AllReadyJ.cons rfl (fun KK hKK => ?_) AllReadyJ.nil
      have hz1 := HST.cell.2.2.2 2
      have hz2 := HST.cell.2.2.1
      go_simp
      clear hz1 hz2
      replace HST := HST.put2 (.slice x2 (cbl + 1) c2)
      refine hKK.out _ _ (fun h => absurd h (by decide)) ?_
      clear hKK KK
      generalize u0.setCell ⟨pb, 2, none⟩ (.slice x2 (cbl + 1) c2) = u1 at HST ⊢
      (try clear hHeld)
      clear u0
      revert u1
      intro u0 HST
      (try simp only [Act.put, List.getElem_toArray, List.getElem_cons_zero, List.getElem_cons_succ, List.setIfInBounds_toArray, List.set_cons_zero, List.set_cons_succ])
      refine wpAnyJ_done (by kernel_rfl) ?_ _
      refine NoPanic.normal ?_
      have T2 := TT.out.upd_b HST.end HST.fr
      clear HST
      generalize hu2 : u0 = u2 at T2 ⊢
      clear hu2
      obtain ⟨_, e9, kx2, _⟩ := T2.drew.a.key HX.out
      injection e9 with e9
      injection e9 with e9 _
      subst e9
      obtain ⟨_, e9, kz2, fz2⟩ := T2.drew.n.key HZ.out
      injection e9 with e9
      injection e9 with e9 _
      subst e9
      go_wp2_with fail
      refine wp_region_noPanic ?_
      refine wp_region_J (S := fun u : World => u.cell? ⟨pn, 0, none⟩ = some (.slice (some ⟨gn, 0, none⟩) kn cn1) ∧ u.cell? ⟨pa, 0, none⟩ = some (.slice (some ⟨ga, 0, none⟩) (kk + 1) ca1) ∧ u.cell? ⟨ga, 0, none⟩ = some (.string x)) (fun j => j == 12) (by kernel_rfl) ?_
      have hHeld : (fun u : World => u.cell? ⟨pn, 0, none⟩ = some (.slice (some ⟨gn, 0, none⟩) kn cn1) ∧ u.cell? ⟨pa, 0, none⟩ = some (.slice (some ⟨ga, 0, none⟩) (kk + 1) ca1) ∧ u.cell? ⟨ga, 0, none⟩ = some (.string x)) u2.drew := ⟨T2.drew.n.cells.1, T2.drew.a.cells.1, kx2⟩
      refine wpAnyJ_take0 (i := 0) (v := ?_) rfl (by kernel_rfl) (by kernel_rfl) (by kernel_rfl) (fun _ _ _ h => h) (Or.inl ⟨by rfl, ?_⟩) ?_
      rotate_left
      focus ((intro w hSw; clear hSw; go_simp); try with_reducible rfl)
      (try simp only [Act.put, List.getElem_toArray, List.getElem_cons_zero, List.getElem_cons_succ, List.setIfInBounds_toArray, List.set_cons_zero, List.set_cons_succ])
      refine wpAnyJ_take0 (i := 1) (v := ?_) rfl (by kernel_rfl) (by kernel_rfl) (by kernel_rfl) (fun _ _ _ h => h) (Or.inl ⟨by rfl, ?_⟩) ?_
      rotate_left
      focus ((intro w hSw; clear hSw; go_simp); try with_reducible rfl)
      (try simp only [Act.put, List.getElem_toArray, List.getElem_cons_zero, List.getElem_cons_succ, List.setIfInBounds_toArray, List.set_cons_zero, List.set_cons_succ])
      refine wpAnyJ_take0 (i := 2) (v := ?_) rfl (by kernel_rfl) (by kernel_rfl) (by kernel_rfl) (fun _ _ _ h => h) (Or.inl ⟨by rfl, ?_⟩) ?_
      rotate_left
      focus ((intro w hSw; clear hSw; go_simp); try with_reducible rfl)
      (try simp only [Act.put, List.getElem_toArray, List.getElem_cons_zero, List.getElem_cons_succ, List.setIfInBounds_toArray, List.set_cons_zero, List.set_cons_succ])
      refine wpAnyJ_take (i := 3) (v := ?_) rfl (by kernel_rfl) (by kernel_rfl) (by kernel_rfl) (by kernel_rfl) (fun _ _ _ h => h) (Or.inl ⟨by rfl, ?_⟩) (by assumption) ?_
      rotate_left
      focus ((intro w hSw; (try dsimp only at hSw); go_simp); try with_reducible rfl)
      (try simp only [Act.put, List.getElem_toArray, List.getElem_cons_zero, List.getElem_cons_succ, List.setIfInBounds_toArray, List.set_cons_zero, List.set_cons_succ])
      refine wpAnyJ_take0 (i := 4) (v := ?_) rfl (by kernel_rfl) (by kernel_rfl) (by kernel_rfl) (fun _ _ _ h => h) (Or.inl ⟨by rfl, ?_⟩) ?_
      rotate_left
      focus ((intro w hSw; clear hSw; go_simp); try with_reducible rfl)
      (try simp only [Act.put, List.getElem_toArray, List.getElem_cons_zero, List.getElem_cons_succ, List.setIfInBounds_toArray, List.set_cons_zero, List.set_cons_succ])
      refine wpAnyJ_take0 (i := 5) (v := ?_) rfl (by kernel_rfl) (by kernel_rfl) (by kernel_rfl) (fun _ _ _ h => h) (Or.inl ⟨by rfl, ?_⟩) ?_
      rotate_left
      focus ((intro w hSw; clear hSw; go_simp); try with_reducible rfl)
      (try simp only [Act.put, List.getElem_toArray, List.getElem_cons_zero, List.getElem_cons_succ, List.setIfInBounds_toArray, List.set_cons_zero, List.set_cons_succ])
      refine wpAnyJ_take0 (i := 6) (v := ?_) rfl (by kernel_rfl) (by kernel_rfl) (by kernel_rfl) (fun _ _ _ h => h) (Or.inl ⟨by rfl, ?_⟩) ?_
      rotate_left
      focus ((intro w hSw; clear hSw; go_simp); try with_reducible rfl)
      (try simp only [Act.put, List.getElem_toArray, List.getElem_cons_zero, List.getElem_cons_succ, List.setIfInBounds_toArray, List.set_cons_zero, List.set_cons_succ])
      refine wpAnyJ_take0 (i := 7) (v := ?_) rfl (by kernel_rfl) (by kernel_rfl) (by kernel_rfl) (fun _ _ _ h => h) (Or.inl ⟨by rfl, ?_⟩) ?_
      rotate_left
      focus ((intro w hSw; clear hSw; go_simp); try with_reducible rfl)
      (try simp only [Act.put, List.getElem_toArray, List.getElem_cons_zero, List.getElem_cons_succ, List.setIfInBounds_toArray, List.set_cons_zero, List.set_cons_succ])
      refine wpAnyJ_take (i := 8) (v := ?_) rfl (by kernel_rfl) (by kernel_rfl) (by kernel_rfl) (by kernel_rfl) (fun _ _ _ h => h) (Or.inl ⟨by rfl, ?_⟩) (by assumption) ?_
      rotate_left
      focus ((intro w hSw; (try dsimp only at hSw); go_simp); try with_reducible rfl)
      (try simp only [Act.put, List.getElem_toArray, List.getElem_cons_zero, List.getElem_cons_succ, List.setIfInBounds_toArray, List.set_cons_zero, List.set_cons_succ])
      refine wpAnyJ_take0 (i := 9) (v := ?_) rfl (by kernel_rfl) (by kernel_rfl) (by kernel_rfl) (fun _ _ _ h => h) (Or.inl ⟨by rfl, ?_⟩) ?_
      rotate_left
      focus ((intro w hSw; clear hSw; go_simp); try with_reducible rfl)
      (try simp only [Act.put, List.getElem_toArray, List.getElem_cons_zero, List.getElem_cons_succ, List.setIfInBounds_toArray, List.set_cons_zero, List.set_cons_succ])
      refine wpAnyJ_take (i := 10) (v := ?_) rfl (by kernel_rfl) (by kernel_rfl) (by kernel_rfl) (by kernel_rfl) (fun _ _ _ h => h) (Or.inl ⟨by rfl, ?_⟩) (by assumption) ?_
      rotate_left
      focus ((intro w hSw; (try dsimp only at hSw); go_simp); try with_reducible rfl)
      (try simp only [Act.put, List.getElem_toArray, List.getElem_cons_zero, List.getElem_cons_succ, List.setIfInBounds_toArray, List.set_cons_zero, List.set_cons_succ])
      refine wpAnyJ_take0 (i := 11) (v := ?_) rfl (by kernel_rfl) (by kernel_rfl) (by kernel_rfl) (fun _ _ _ h => h) (Or.inl ⟨by rfl, ?_⟩) ?_
      rotate_left
      focus ((intro w hSw; clear hSw; go_simp); try with_reducible rfl)
      (try simp only [Act.put, List.getElem_toArray, List.getElem_cons_zero, List.getElem_cons_succ, List.setIfInBounds_toArray, List.set_cons_zero, List.set_cons_succ])
      refine wpAnyJ_ready (rs := [12]) (by kernel_rfl) (by simp) ?_
      refine AllReadyJ.cons rfl (fun KK hKK => ?_) AllReadyJ.nil
      go_simp
      refine hKK.out _ _ (fun h => absurd h (by decide)) ?_
      clear hKK KK hHeld
      (try simp only [Act.put, List.getElem_toArray, List.getElem_cons_zero, List.getElem_cons_succ, List.setIfInBounds_toArray, List.set_cons_zero, List.set_cons_succ])
      refine wpAnyJ_done (by kernel_rfl) ?_ _
      refine NoPanic.normal ?_
      have h3 := T2.n.set1 (fun k => by have := T2.one k; omega) t x
      have T3 := (T2.upd_n h3.1 h3.2).drew
      generalize (u2.setCell ⟨gn, t, none⟩ (.string x)).drew = u3 at T3 ⊢
      have HST := (St.start T3.a (fun k => by have := T3.one k; omega)).drew
      have T3 := Lib.hid T3
      clear T2 h3 kz2 kx2 fz2
      go_wp2_with fail
      refine wp_region_noPanic ?_
      refine wp_region_J (S := fun u : World => u.cell? ⟨pa, 0, none⟩ = some (.slice (some ⟨ga, 0, none⟩) (kk + 1) ca1) ∧ u.cell? ⟨pa, 2, none⟩ = some (.slice (some ⟨ga3, 0, none⟩) (kk + 2) ca3)) (fun j => j == 14 || j == 17) (by kernel_rfl) ?_
      obtain ⟨u0, hu0⟩ : ∃ u, u3.drew = u := ⟨_, rfl⟩
      rw [hu0] at HST ⊢
      clear hu0
      have hHeld : (fun u : World => u.cell? ⟨pa, 0, none⟩ = some (.slice (some ⟨ga, 0, none⟩) (kk + 1) ca1) ∧ u.cell? ⟨pa, 2, none⟩ = some (.slice (some ⟨ga3, 0, none⟩) (kk + 2) ca3)) u0 := ⟨HST.cell.1, HST.cell.2.2.1⟩
      refine wpAnyJ_take0 (i := 0) (v := ?_) rfl (by kernel_rfl) (by kernel_rfl) (by kernel_rfl) (fun _ _ _ h => h) (Or.inl ⟨by rfl, ?_⟩) ?_
      rotate_left
      focus ((intro w hSw; clear hSw; go_simp); try with_reducible rfl)
      (try simp only [Act.put, List.getElem_toArray, List.getElem_cons_zero, List.getElem_cons_succ, List.setIfInBounds_toArray, List.set_cons_zero, List.set_cons_succ])
      refine wpAnyJ_take0 (i := 1) (v := ?_) rfl (by kernel_rfl) (by kernel_rfl) (by kernel_rfl) (fun _ _ _ h => h) (Or.inl ⟨by rfl, ?_⟩) ?_
      rotate_left
      focus ((intro w hSw; clear hSw; go_simp); try with_reducible rfl)
      (try simp only [Act.put, List.getElem_toArray, List.getElem_cons_zero, List.getElem_cons_succ, List.setIfInBounds_toArray, List.set_cons_zero, List.set_cons_succ])
      refine wpAnyJ_take0 (i := 2) (v := ?_) rfl (by kernel_rfl) (by kernel_rfl) (by kernel_rfl) (fun _ _ _ h => h) (Or.inl ⟨by rfl, ?_⟩) ?_
      rotate_left
      focus ((intro w hSw; clear hSw; go_simp); try with_reducible rfl)
      (try simp only [Act.put, List.getElem_toArray, List.getElem_cons_zero, List.getElem_cons_succ, List.setIfInBounds_toArray, List.set_cons_zero, List.set_cons_succ])
      refine wpAnyJ_take0 (i := 3) (v := ?_) rfl (by kernel_rfl) (by kernel_rfl) (by kernel_rfl) (fun _ _ _ h => h) (Or.inl ⟨by rfl, ?_⟩) ?_
      rotate_left
      focus ((intro w hSw; clear hSw; go_simp); try with_reducible rfl)
      (try simp only [Act.put, List.getElem_toArray, List.getElem_cons_zero, List.getElem_cons_succ, List.setIfInBounds_toArray, List.set_cons_zero, List.set_cons_succ])
      refine wpAnyJ_take0 (i := 4) (v := ?_) rfl (by kernel_rfl) (by kernel_rfl) (by kernel_rfl) (fun _ _ _ h => h) (Or.inl ⟨by rfl, ?_⟩) ?_
      rotate_left
      focus ((intro w hSw; clear hSw; go_simp); try with_reducible rfl)
      (try simp only [Act.put, List.getElem_toArray, List.getElem_cons_zero, List.getElem_cons_succ, List.setIfInBounds_toArray, List.set_cons_zero, List.set_cons_succ])
      refine wpAnyJ_take (i := 5) (v := ?_) rfl (by kernel_rfl) (by kernel_rfl) (by kernel_rfl) (by kernel_rfl) (fun _ _ _ h => h) (Or.inl ⟨by rfl, ?_⟩) (by assumption) ?_
      rotate_left
      focus ((intro w hSw; (try dsimp only at hSw); go_simp); try with_reducible rfl)
      (try simp only [Act.put, List.getElem_toArray, List.getElem_cons_zero, List.getElem_cons_succ, List.setIfInBounds_toArray, List.set_cons_zero, List.set_cons_succ])
      refine wpAnyJ_take0 (i := 7) (v := ?_) rfl (by kernel_rfl) (by kernel_rfl) (by kernel_rfl) (fun _ _ _ h => h) (Or.inl ⟨by rfl, ?_⟩) ?_
      rotate_left
      focus ((intro w hSw; clear hSw; go_simp); try with_reducible rfl)
      (try simp only [Act.put, List.getElem_toArray, List.getElem_cons_zero, List.getElem_cons_succ, List.setIfInBounds_toArray, List.set_cons_zero, List.set_cons_succ])
      refine wpAnyJ_take0 (i := 8) (v := ?_) rfl (by kernel_rfl) (by kernel_rfl) (by kernel_rfl) (fun _ _ _ h => h) (Or.inl ⟨by rfl, ?_⟩) ?_
      rotate_left
      focus ((intro w hSw; clear hSw; go_simp); try with_reducible rfl)
      (try simp only [Act.put, List.getElem_toArray, List.getElem_cons_zero, List.getElem_cons_succ, List.setIfInBounds_toArray, List.set_cons_zero, List.set_cons_succ])
      refine wpAnyJ_take0 (i := 9) (v := ?_) rfl (by kernel_rfl) (by kernel_rfl) (by kernel_rfl) (fun _ _ _ h => h) (Or.inl ⟨by rfl, ?_⟩) ?_
      rotate_left
      focus ((intro w hSw; clear hSw; go_simp); try with_reducible rfl)
      (try simp only [Act.put, List.getElem_toArray, List.getElem_cons_zero, List.getElem_cons_succ, List.setIfInBounds_toArray, List.set_cons_zero, List.set_cons_succ])
      refine wpAnyJ_take (i := 10) (v := ?_) rfl (by kernel_rfl) (by kernel_rfl) (by kernel_rfl) (by kernel_rfl) (fun _ _ _ h => h) (Or.inl ⟨by rfl, ?_⟩) (by assumption) ?_
      rotate_left
      focus ((intro w hSw; (try dsimp only at hSw); go_simp); try with_reducible rfl)
      (try simp only [Act.put, List.getElem_toArray, List.getElem_cons_zero, List.getElem_cons_succ, List.setIfInBounds_toArray, List.set_cons_zero, List.set_cons_succ])
      refine wpAnyJ_ready (rs := [6]) (by kernel_rfl) (by simp) ?_
      refine AllReadyJ.cons rfl (fun KK hKK => ?_) AllReadyJ.nil
      go_simp
      go_at_call 52
      refine (HST.del1 (i := 0) (by rw [HA.out]; omega) (by rw [HA.out]; omega) 1 rfl 0 rfl).mono ?_
      rintro e u1 ⟨rfl, HST2⟩
      have hsub : kk + 1 - 1 = kk := by omega
      rw [hsub] at HST2
      (try rw [hsub])
      clear hsub
      clear HST
      have HST := HST2
      clear HST2
      have hH2 : (fun u : World => u.cell? ⟨pa, 0, none⟩ = some (.slice (some ⟨ga, 0, none⟩) (kk + 1) ca1) ∧ u.cell? ⟨pa, 2, none⟩ = some (.slice (some ⟨ga3, 0, none⟩) (kk + 2) ca3)) u1 := ⟨HST.cell.1, HST.cell.2.2.1⟩
      refine hKK.out _ _ (fun _ _ => hH2) ?_
      clear hKK KK
      clear hHeld
      have hHeld := hH2
      clear hH2 u0
      revert u1
      intro u0 HST hHeld
      (try simp only [Act.put, List.getElem_toArray, List.getElem_cons_zero, List.getElem_cons_succ, List.setIfInBounds_toArray, List.set_cons_zero, List.set_cons_succ])
      refine wpAnyJ_ready (rs := [11]) (by kernel_rfl) (by simp) ?_
      refine AllReadyJ.cons rfl (fun KK hKK => ?_) AllReadyJ.nil
      go_simp
      go_at_call 67
      refine (HST.del3 (i := 0) (by rw [HCA.out]; omega) (by rw [HCA.out]; omega) 1 rfl 0 rfl).mono ?_
      rintro e u1 ⟨rfl, HST2⟩
      have hsub : kk + 2 - 1 = kk + 1 := by omega
      rw [hsub] at HST2
      (try rw [hsub])
      clear hsub
      clear HST
      have HST := HST2
      clear HST2
      have hH2 : (fun u : World => u.cell? ⟨pa, 0, none⟩ = some (.slice (some ⟨ga, 0, none⟩) (kk + 1) ca1) ∧ u.cell? ⟨pa, 2, none⟩ = some (.slice (some ⟨ga3, 0, none⟩) (kk + 2) ca3)) u1 := ⟨HST.cell.1, HST.cell.2.2.1⟩
      refine hKK.out _ _ (fun _ _ => hH2) ?_
      clear hKK KK
      clear hHeld
      have hHeld := hH2
      clear hH2 u0
      revert u1
      intro u0 HST hHeld
      (try simp only [Act.put, List.getElem_toArray, List.getElem_cons_zero, List.getElem_cons_succ, List.setIfInBounds_toArray, List.set_cons_zero, List.set_cons_succ])
      refine wpAnyJ_take0 (i := 12) (v := ?_) rfl (by kernel_rfl) (by kernel_rfl) (by kernel_rfl) (fun _ _ _ h => h) (Or.inl ⟨by rfl, ?_⟩) ?_
      rotate_left
      focus ((intro w hSw; clear hSw; go_simp); try with_reducible rfl)
      (try simp only [Act.put, List.getElem_toArray, List.getElem_cons_zero, List.getElem_cons_succ, List.setIfInBounds_toArray, List.set_cons_zero, List.set_cons_succ])
      refine wpAnyJ_take0 (i := 13) (v := ?_) rfl (by kernel_rfl) (by kernel_rfl) (by kernel_rfl) (fun _ _ _ h => h) (Or.inl ⟨by rfl, ?_⟩) ?_
      rotate_left
      focus ((intro w hSw; clear hSw; go_simp); try with_reducible rfl)
      (try simp only [Act.put, List.getElem_toArray, List.getElem_cons_zero, List.getElem_cons_succ, List.setIfInBounds_toArray, List.set_cons_zero, List.set_cons_succ])
      refine wpAnyJ_ready (rs := [14]) (by kernel_rfl) (by simp) ?_
      refine AllReadyJ.cons rfl (fun KK hKK => ?_) AllReadyJ.nil
      have hz1 := HST.cell.2.2.2 0
      have hz2 := HST.cell.1
      go_simp
      clear hz1 hz2
      replace HST := HST.put0 (.slice (some ⟨ga, 0, none⟩) kk ca1)
      refine hKK.out _ _ (fun h => absurd h (by decide)) ?_
      clear hKK KK
      generalize u0.setCell ⟨pa, 0, none⟩ (.slice (some ⟨ga, 0, none⟩) kk ca1) = u1 at HST ⊢
      (try clear hHeld)
      clear u0
      revert u1
      intro u0 HST
      (try simp only [Act.put, List.getElem_toArray, List.getElem_cons_zero, List.getElem_cons_succ, List.setIfInBounds_toArray, List.set_cons_zero, List.set_cons_succ])
      refine wpAnyJ_take0 (i := 15) (v := ?_) rfl (by kernel_rfl) (by kernel_rfl) (by kernel_rfl) (fun _ _ _ h => h) (Or.inl ⟨by rfl, ?_⟩) ?_
      rotate_left
      focus ((intro w hSw; clear hSw; go_simp); try with_reducible rfl)
      (try simp only [Act.put, List.getElem_toArray, List.getElem_cons_zero, List.getElem_cons_succ, List.setIfInBounds_toArray, List.set_cons_zero, List.set_cons_succ])
      refine wpAnyJ_take0 (i := 16) (v := ?_) rfl (by kernel_rfl) (by kernel_rfl) (by kernel_rfl) (fun _ _ _ h => h) (Or.inl ⟨by rfl, ?_⟩) ?_
      rotate_left
      focus ((intro w hSw; clear hSw; go_simp); try with_reducible rfl)
      (try simp only [Act.put, List.getElem_toArray, List.getElem_cons_zero, List.getElem_cons_succ, List.setIfInBounds_toArray, List.set_cons_zero, List.set_cons_succ])
      refine wpAnyJ_ready (rs := [17]) (by kernel_rfl) (by simp) ?_
      refine AllReadyJ.cons rfl (fun KK hKK => ?_) AllReadyJ.nil
      have hz1 := HST.cell.2.2.2 2
      have hz2 := HST.cell.2.2.1
      go_simp
      clear hz1 hz2
      replace HST := HST.put2 (.slice (some ⟨ga3, 0, none⟩) (kk + 1) ca3)
      refine hKK.out _ _ (fun h => absurd h (by decide)) ?_
      clear hKK KK
      generalize u0.setCell ⟨pa, 2, none⟩ (.slice (some ⟨ga3, 0, none⟩) (kk + 1) ca3) = u1 at HST ⊢
      (try clear hHeld)
      clear u0
      revert u1
      intro u0 HST
      (try simp only [Act.put, List.getElem_toArray, List.getElem_cons_zero, List.getElem_cons_succ, List.setIfInBounds_toArray, List.set_cons_zero, List.set_cons_succ])
      refine wpAnyJ_done (by kernel_rfl) ?_ _
      refine NoPanic.normal ?_
      have T4 := Lib.hid (T3.out.upd_a HST.end HST.fr)
      clear HST T3
      go_wp2_with fail
      rw [← HQ.out]
      refine ⟨rfl, _, results_none rfl _ _ _, rfl, ?_⟩
      rw [HA.out, HCA.out]
      exact ⟨_, _, _, _, _, _, _, _, _, T4.out⟩
    · go_simp
      replace HST := HST.alloc (.pointer (some ⟨y, 0, none⟩)) 61
      have hH2 : (fun u : World => u.cell? ⟨pb, 0, none⟩ = some (.slice ab1 kb cb1) ∧ u.cell? ⟨pb, 2, none⟩ = some (.slice ab3 cbl cb3) ∧ u.cell? ⟨pn, 0, none⟩ = some (.slice (some ⟨gn, 0, none⟩) kn cn1) ∧ u.cell? ⟨gn, t, none⟩ = some (.string z) ∧ u.cell? ⟨pa, 2, none⟩ = some (.slice (some ⟨ga3, 0, none⟩) (kk + 2) ca3) ∧ u.cell? ⟨ga3, 0, none⟩ = some (.pointer (some ⟨y, 0, none⟩))) (u0.alloc (.cells #[.pointer (some ⟨y, 0, none⟩)] 61)) := ⟨HST.cell.1, HST.cell.2.2.1, HST.other dn0 z0, HST.other kz z2, HST.other da2 z1, HST.other ky z3⟩
      refine hKK.out _ _ (fun _ _ => hH2) ?_
      clear hKK KK
      generalize u0.heap.size = vb2 at HST ⊢
      generalize u0.alloc (.cells #[.pointer (some ⟨y, 0, none⟩)] 61) = u1 at HST hH2 ⊢
      clear hHeld
      have hHeld := hH2
      clear hH2
      clear u0
      revert u1
      intro u0 HST hHeld
      (try simp only [Act.put, List.getElem_toArray, List.getElem_cons_zero, List.getElem_cons_succ, List.setIfInBounds_toArray, List.set_cons_zero, List.set_cons_succ])
      refine wpAnyJ_ready (rs := [14]) (by kernel_rfl) (by simp) ?_
      refine AllReadyJ.cons rfl (fun KK hKK => ?_) AllReadyJ.nil
      refine step_append_arr (by rfl) _ _ 27 (by rfl) Try.underlying27 siS szS s1S s2S rfl (by decide) _ _ _ ((Kb).map Value.string) (by rfl) HST.r1 (str_one _) (some ⟨vb1, 0, none⟩) (1) 1 _ (([z]).map Value.string) (by rfl) (by simp) (str_one _) (fun h => by cases h) (HST.one (t := 9) (by simp)) (by have := HSZ.out.1; simp; omega) ?_
      intro x1 c1 u1 h1 h2 h3
      have HST2 := HST.row1 h2 h3 (by rw [← List.map_append] at h1; exact h1)
      clear h1 h2 h3 HST
      have HST := HST2
      clear HST2
      have hH2 : (fun u : World => u.cell? ⟨pb, 0, none⟩ = some (.slice ab1 kb cb1) ∧ u.cell? ⟨pb, 2, none⟩ = some (.slice ab3 cbl cb3) ∧ u.cell? ⟨pn, 0, none⟩ = some (.slice (some ⟨gn, 0, none⟩) kn cn1) ∧ u.cell? ⟨gn, t, none⟩ = some (.string z) ∧ u.cell? ⟨pa, 2, none⟩ = some (.slice (some ⟨ga3, 0, none⟩) (kk + 2) ca3) ∧ u.cell? ⟨ga3, 0, none⟩ = some (.pointer (some ⟨y, 0, none⟩))) u1 := ⟨HST.cell.1, HST.cell.2.2.1, HST.other dn0 z0, HST.other kz z2, HST.other da2 z1, HST.other ky z3⟩
      refine hKK.out _ _ (fun _ _ => hH2) ?_
      clear hKK KK
      clear hHeld
      have hHeld := hH2
      clear hH2 u0
      revert u1
      intro u0 HST hHeld
      (try simp only [Act.put, List.getElem_toArray, List.getElem_cons_zero, List.getElem_cons_succ, List.setIfInBounds_toArray, List.set_cons_zero, List.set_cons_succ])
      refine wpAnyJ_ready (rs := [26]) (by kernel_rfl) (by simp) ?_
      refine AllReadyJ.cons rfl (fun KK hKK => ?_) AllReadyJ.nil
      refine step_append_arr (by rfl) _ _ 67 (by rfl) Try.underlying67 siP szP s1P s2P rfl (by decide) _ _ _ ((Cb).map ptrV) (by rfl) HST.r3 (ptr_one _) (some ⟨vb2, 0, none⟩) (1) 1 _ (([y]).map ptrV) (by rfl) (by simp) (ptr_one _) (fun h => by cases h) (HST.one (t := 61) (by simp [ptrV])) (by have := HSZ.out.2; simp; omega) ?_
      intro x2 c2 u1 h1 h2 h3
      have HST2 := HST.row3 h2 h3 (by rw [← List.map_append] at h1; exact h1)
      clear h1 h2 h3 HST
      have HST := HST2
      clear HST2
      have hH2 : (fun u : World => u.cell? ⟨pb, 0, none⟩ = some (.slice ab1 kb cb1) ∧ u.cell? ⟨pb, 2, none⟩ = some (.slice ab3 cbl cb3) ∧ u.cell? ⟨pn, 0, none⟩ = some (.slice (some ⟨gn, 0, none⟩) kn cn1) ∧ u.cell? ⟨gn, t, none⟩ = some (.string z) ∧ u.cell? ⟨pa, 2, none⟩ = some (.slice (some ⟨ga3, 0, none⟩) (kk + 2) ca3) ∧ u.cell? ⟨ga3, 0, none⟩ = some (.pointer (some ⟨y, 0, none⟩))) u1 := ⟨HST.cell.1, HST.cell.2.2.1, HST.other dn0 z0, HST.other kz z2, HST.other da2 z1, HST.other ky z3⟩
      refine hKK.out _ _ (fun _ _ => hH2) ?_
      clear hKK KK
      clear hHeld
      have hHeld := hH2
      clear hH2 u0
      revert u1
      intro u0 HST hHeld
      (try simp only [Act.put, List.getElem_toArray, List.getElem_cons_zero, List.getElem_cons_succ, List.setIfInBounds_toArray, List.set_cons_zero, List.set_cons_succ])
      refine wpAnyJ_take0 (i := 27) (v := ?_) rfl (by kernel_rfl) (by kernel_rfl) (by kernel_rfl) (fun _ _ _ h => h) (Or.inl ⟨by rfl, ?_⟩) ?_
      rotate_left
      focus ((intro w hSw; clear hSw; go_simp); try with_reducible rfl)
      (try simp only [Act.put, List.getElem_toArray, List.getElem_cons_zero, List.getElem_cons_succ, List.setIfInBounds_toArray, List.set_cons_zero, List.set_cons_succ])
      refine wpAnyJ_take0 (i := 28) (v := ?_) rfl (by kernel_rfl) (by kernel_rfl) (by kernel_rfl) (fun _ _ _ h => h) (Or.inl ⟨by rfl, ?_⟩) ?_
      rotate_left
      focus ((intro w hSw; clear hSw; go_simp); try with_reducible rfl)
      (try simp only [Act.put, List.getElem_toArray, List.getElem_cons_zero, List.getElem_cons_succ, List.setIfInBounds_toArray, List.set_cons_zero, List.set_cons_succ])
      refine wpAnyJ_ready (rs := [29]) (by kernel_rfl) (by simp) ?_
      refine AllReadyJ.cons rfl (fun KK hKK => ?_) AllReadyJ.nil
      have hz1 := HST.cell.2.2.2 0
      have hz2 := HST.cell.1
      go_simp
      clear hz1 hz2
      replace HST := HST.put0 (.slice x1 (kb + 1) c1)
      refine hKK.out _ _ (fun h => absurd h (by decide)) ?_
      clear hKK KK
      generalize u0.setCell ⟨pb, 0, none⟩ (.slice x1 (kb + 1) c1) = u1 at HST ⊢
      (try clear hHeld)
      clear u0
      revert u1
      intro u0 HST
      (try simp only [Act.put, List.getElem_toArray, List.getElem_cons_zero, List.getElem_cons_succ, List.setIfInBounds_toArray, List.set_cons_zero, List.set_cons_succ])
      refine wpAnyJ_take0 (i := 30) (v := ?_) rfl (by kernel_rfl) (by kernel_rfl) (by kernel_rfl) (fun _ _ _ h => h) (Or.inl ⟨by rfl, ?_⟩) ?_
      rotate_left
      focus ((intro w hSw; clear hSw; go_simp); try with_reducible rfl)
      (try simp only [Act.put, List.getElem_toArray, List.getElem_cons_zero, List.getElem_cons_succ, List.setIfInBounds_toArray, List.set_cons_zero, List.set_cons_succ])
      refine wpAnyJ_take0 (i := 31) (v := ?_) rfl (by kernel_rfl) (by kernel_rfl) (by kernel_rfl) (fun _ _ _ h => h) (Or.inl ⟨by rfl, ?_⟩) ?_
      rotate_left
      focus ((intro w hSw; clear hSw; go_simp); try with_reducible rfl)
      (try simp only [Act.put, List.getElem_toArray, List.getElem_cons_zero, List.getElem_cons_succ, List.setIfInBounds_toArray, List.set_cons_zero, List.set_cons_succ])
      refine wpAnyJ_ready (rs := [32]) (by kernel_rfl) (by simp) ?_
      refine AllReadyJ.cons rfl (fun KK hKK => ?_) AllReadyJ.nil
      have hz1 := HST.cell.2.2.2 2
      have hz2 := HST.cell.2.2.1
      go_simp
      clear hz1 hz2
      replace HST := HST.put2 (.slice x2 (cbl + 1) c2)
      refine hKK.out _ _ (fun h => absurd h (by decide)) ?_
      clear hKK KK
      generalize u0.setCell ⟨pb, 2, none⟩ (.slice x2 (cbl + 1) c2) = u1 at HST ⊢
      (try clear hHeld)
      clear u0
      revert u1
      intro u0 HST
      (try simp only [Act.put, List.getElem_toArray, List.getElem_cons_zero, List.getElem_cons_succ, List.setIfInBounds_toArray, List.set_cons_zero, List.set_cons_succ])
      refine wpAnyJ_done (by kernel_rfl) ?_ _
      refine NoPanic.normal ?_
      have T2 := TT.out.upd_b HST.end HST.fr
      clear HST
      generalize hu2 : u0 = u2 at T2 ⊢
      clear hu2
      obtain ⟨_, e9, kx2, _⟩ := T2.drew.a.key HX.out
      injection e9 with e9
      injection e9 with e9 _
      subst e9
      obtain ⟨_, e9, kz2, fz2⟩ := T2.drew.n.key HZ.out
      injection e9 with e9
      injection e9 with e9 _
      subst e9
      go_wp2_with fail
      refine wp_region_noPanic ?_
      refine wp_region_J (S := fun u : World => u.cell? ⟨pn, 0, none⟩ = some (.slice (some ⟨gn, 0, none⟩) kn cn1) ∧ u.cell? ⟨pa, 0, none⟩ = some (.slice (some ⟨ga, 0, none⟩) (kk + 1) ca1) ∧ u.cell? ⟨ga, 0, none⟩ = some (.string x)) (fun j => j == 12) (by kernel_rfl) ?_
      have hHeld : (fun u : World => u.cell? ⟨pn, 0, none⟩ = some (.slice (some ⟨gn, 0, none⟩) kn cn1) ∧ u.cell? ⟨pa, 0, none⟩ = some (.slice (some ⟨ga, 0, none⟩) (kk + 1) ca1) ∧ u.cell? ⟨ga, 0, none⟩ = some (.string x)) u2.drew := ⟨T2.drew.n.cells.1, T2.drew.a.cells.1, kx2⟩
      refine wpAnyJ_take0 (i := 0) (v := ?_) rfl (by kernel_rfl) (by kernel_rfl) (by kernel_rfl) (fun _ _ _ h => h) (Or.inl ⟨by rfl, ?_⟩) ?_
      rotate_left
      focus ((intro w hSw; clear hSw; go_simp); try with_reducible rfl)
      (try simp only [Act.put, List.getElem_toArray, List.getElem_cons_zero, List.getElem_cons_succ, List.setIfInBounds_toArray, List.set_cons_zero, List.set_cons_succ])
      refine wpAnyJ_take0 (i := 1) (v := ?_) rfl (by kernel_rfl) (by kernel_rfl) (by kernel_rfl) (fun _ _ _ h => h) (Or.inl ⟨by rfl, ?_⟩) ?_
      rotate_left
      focus ((intro w hSw; clear hSw; go_simp); try with_reducible rfl)
      (try simp only [Act.put, List.getElem_toArray, List.getElem_cons_zero, List.getElem_cons_succ, List.setIfInBounds_toArray, List.set_cons_zero, List.set_cons_succ])
      refine wpAnyJ_take0 (i := 2) (v := ?_) rfl (by kernel_rfl) (by kernel_rfl) (by kernel_rfl) (fun _ _ _ h => h) (Or.inl ⟨by rfl, ?_⟩) ?_
      rotate_left
      focus ((intro w hSw; clear hSw; go_simp); try with_reducible rfl)
      (try simp only [Act.put, List.getElem_toArray, List.getElem_cons_zero, List.getElem_cons_succ, List.setIfInBounds_toArray, List.set_cons_zero, List.set_cons_succ])
      refine wpAnyJ_take (i := 3) (v := ?_) rfl (by kernel_rfl) (by kernel_rfl) (by kernel_rfl) (by kernel_rfl) (fun _ _ _ h => h) (Or.inl ⟨by rfl, ?_⟩) (by assumption) ?_
      rotate_left
      focus ((intro w hSw; (try dsimp only at hSw); go_simp); try with_reducible rfl)
      (try simp only [Act.put, List.getElem_toArray, List.getElem_cons_zero, List.getElem_cons_succ, List.setIfInBounds_toArray, List.set_cons_zero, List.set_cons_succ])
      refine wpAnyJ_take0 (i := 4) (v := ?_) rfl (by kernel_rfl) (by kernel_rfl) (by kernel_rfl) (fun _ _ _ h => h) (Or.inl ⟨by rfl, ?_⟩) ?_
      rotate_left
      focus ((intro w hSw; clear hSw; go_simp); try with_reducible rfl)
      (try simp only [Act.put, List.getElem_toArray, List.getElem_cons_zero, List.getElem_cons_succ, List.setIfInBounds_toArray, List.set_cons_zero, List.set_cons_succ])
      refine wpAnyJ_take0 (i := 5) (v := ?_) rfl (by kernel_rfl) (by kernel_rfl) (by kernel_rfl) (fun _ _ _ h => h) (Or.inl ⟨by rfl, ?_⟩) ?_
      rotate_left
      focus ((intro w hSw; clear hSw; go_simp); try with_reducible rfl)
      (try simp only [Act.put, List.getElem_toArray, List.getElem_cons_zero, List.getElem_cons_succ, List.setIfInBounds_toArray, List.set_cons_zero, List.set_cons_succ])
      refine wpAnyJ_take0 (i := 6) (v := ?_) rfl (by kernel_rfl) (by kernel_rfl) (by kernel_rfl) (fun _ _ _ h => h) (Or.inl ⟨by rfl, ?_⟩) ?_
      rotate_left
      focus ((intro w hSw; clear hSw; go_simp); try with_reducible rfl)
      (try simp only [Act.put, List.getElem_toArray, List.getElem_cons_zero, List.getElem_cons_succ, List.setIfInBounds_toArray, List.set_cons_zero, List.set_cons_succ])
      refine wpAnyJ_take0 (i := 7) (v := ?_) rfl (by kernel_rfl) (by kernel_rfl) (by kernel_rfl) (fun _ _ _ h => h) (Or.inl ⟨by rfl, ?_⟩) ?_
      rotate_left
      focus ((intro w hSw; clear hSw; go_simp); try with_reducible rfl)
      (try simp only [Act.put, List.getElem_toArray, List.getElem_cons_zero, List.getElem_cons_succ, List.setIfInBounds_toArray, List.set_cons_zero, List.set_cons_succ])
      refine wpAnyJ_take (i := 8) (v := ?_) rfl (by kernel_rfl) (by kernel_rfl) (by kernel_rfl) (by kernel_rfl) (fun _ _ _ h => h) (Or.inl ⟨by rfl, ?_⟩) (by assumption) ?_
      rotate_left
      focus ((intro w hSw; (try dsimp only at hSw); go_simp); try with_reducible rfl)
      (try simp only [Act.put, List.getElem_toArray, List.getElem_cons_zero, List.getElem_cons_succ, List.setIfInBounds_toArray, List.set_cons_zero, List.set_cons_succ])
      refine wpAnyJ_take0 (i := 9) (v := ?_) rfl (by kernel_rfl) (by kernel_rfl) (by kernel_rfl) (fun _ _ _ h => h) (Or.inl ⟨by rfl, ?_⟩) ?_
      rotate_left
      focus ((intro w hSw; clear hSw; go_simp); try with_reducible rfl)
      (try simp only [Act.put, List.getElem_toArray, List.getElem_cons_zero, List.getElem_cons_succ, List.setIfInBounds_toArray, List.set_cons_zero, List.set_cons_succ])
      refine wpAnyJ_take (i := 10) (v := ?_) rfl (by kernel_rfl) (by kernel_rfl) (by kernel_rfl) (by kernel_rfl) (fun _ _ _ h => h) (Or.inl ⟨by rfl, ?_⟩) (by assumption) ?_
      rotate_left
      focus ((intro w hSw; (try dsimp only at hSw); go_simp); try with_reducible rfl)
      (try simp only [Act.put, List.getElem_toArray, List.getElem_cons_zero, List.getElem_cons_succ, List.setIfInBounds_toArray, List.set_cons_zero, List.set_cons_succ])
      refine wpAnyJ_take0 (i := 11) (v := ?_) rfl (by kernel_rfl) (by kernel_rfl) (by kernel_rfl) (fun _ _ _ h => h) (Or.inl ⟨by rfl, ?_⟩) ?_
      rotate_left
      focus ((intro w hSw; clear hSw; go_simp); try with_reducible rfl)
      (try simp only [Act.put, List.getElem_toArray, List.getElem_cons_zero, List.getElem_cons_succ, List.setIfInBounds_toArray, List.set_cons_zero, List.set_cons_succ])
      refine wpAnyJ_ready (rs := [12]) (by kernel_rfl) (by simp) ?_
      refine AllReadyJ.cons rfl (fun KK hKK => ?_) AllReadyJ.nil
      go_simp
      refine hKK.out _ _ (fun h => absurd h (by decide)) ?_
      clear hKK KK hHeld
      (try simp only [Act.put, List.getElem_toArray, List.getElem_cons_zero, List.getElem_cons_succ, List.setIfInBounds_toArray, List.set_cons_zero, List.set_cons_succ])
      refine wpAnyJ_done (by kernel_rfl) ?_ _
      refine NoPanic.normal ?_
      have h3 := T2.n.set1 (fun k => by have := T2.one k; omega) t x
      have T3 := (T2.upd_n h3.1 h3.2).drew
      generalize (u2.setCell ⟨gn, t, none⟩ (.string x)).drew = u3 at T3 ⊢
      have HST := (St.start T3.a (fun k => by have := T3.one k; omega)).drew
      have T3 := Lib.hid T3
      clear T2 h3 kz2 kx2 fz2
      go_wp2_with fail
      refine wp_region_noPanic ?_
      refine wp_region_J (S := fun u : World => u.cell? ⟨pa, 0, none⟩ = some (.slice (some ⟨ga, 0, none⟩) (kk + 1) ca1) ∧ u.cell? ⟨pa, 2, none⟩ = some (.slice (some ⟨ga3, 0, none⟩) (kk + 2) ca3)) (fun j => j == 14 || j == 17) (by kernel_rfl) ?_
      obtain ⟨u0, hu0⟩ : ∃ u, u3.drew = u := ⟨_, rfl⟩
      rw [hu0] at HST ⊢
      clear hu0
      have hHeld : (fun u : World => u.cell? ⟨pa, 0, none⟩ = some (.slice (some ⟨ga, 0, none⟩) (kk + 1) ca1) ∧ u.cell? ⟨pa, 2, none⟩ = some (.slice (some ⟨ga3, 0, none⟩) (kk + 2) ca3)) u0 := ⟨HST.cell.1, HST.cell.2.2.1⟩
      refine wpAnyJ_take0 (i := 0) (v := ?_) rfl (by kernel_rfl) (by kernel_rfl) (by kernel_rfl) (fun _ _ _ h => h) (Or.inl ⟨by rfl, ?_⟩) ?_
      rotate_left
      focus ((intro w hSw; clear hSw; go_simp); try with_reducible rfl)
      (try simp only [Act.put, List.getElem_toArray, List.getElem_cons_zero, List.getElem_cons_succ, List.setIfInBounds_toArray, List.set_cons_zero, List.set_cons_succ])
      refine wpAnyJ_take0 (i := 1) (v := ?_) rfl (by kernel_rfl) (by kernel_rfl) (by kernel_rfl) (fun _ _ _ h => h) (Or.inl ⟨by rfl, ?_⟩) ?_
      rotate_left
      focus ((intro w hSw; clear hSw; go_simp); try with_reducible rfl)
      (try simp only [Act.put, List.getElem_toArray, List.getElem_cons_zero, List.getElem_cons_succ, List.setIfInBounds_toArray, List.set_cons_zero, List.set_cons_succ])
      refine wpAnyJ_take0 (i := 2) (v := ?_) rfl (by kernel_rfl) (by kernel_rfl) (by kernel_rfl) (fun _ _ _ h => h) (Or.inl ⟨by rfl, ?_⟩) ?_
      rotate_left
      focus ((intro w hSw; clear hSw; go_simp); try with_reducible rfl)
      (try simp only [Act.put, List.getElem_toArray, List.getElem_cons_zero, List.getElem_cons_succ, List.setIfInBounds_toArray, List.set_cons_zero, List.set_cons_succ])
      refine wpAnyJ_take0 (i := 3) (v := ?_) rfl (by kernel_rfl) (by kernel_rfl) (by kernel_rfl) (fun _ _ _ h => h) (Or.inl ⟨by rfl, ?_⟩) ?_
      rotate_left
      focus ((intro w hSw; clear hSw; go_simp); try with_reducible rfl)
      (try simp only [Act.put, List.getElem_toArray, List.getElem_cons_zero, List.getElem_cons_succ, List.setIfInBounds_toArray, List.set_cons_zero, List.set_cons_succ])
      refine wpAnyJ_take0 (i := 4) (v := ?_) rfl (by kernel_rfl) (by kernel_rfl) (by kernel_rfl) (fun _ _ _ h => h) (Or.inl ⟨by rfl, ?_⟩) ?_
      rotate_left
      focus ((intro w hSw; clear hSw; go_simp); try with_reducible rfl)
      (try simp only [Act.put, List.getElem_toArray, List.getElem_cons_zero, List.getElem_cons_succ, List.setIfInBounds_toArray, List.set_cons_zero, List.set_cons_succ])
      refine wpAnyJ_take (i := 5) (v := ?_) rfl (by kernel_rfl) (by kernel_rfl) (by kernel_rfl) (by kernel_rfl) (fun _ _ _ h => h) (Or.inl ⟨by rfl, ?_⟩) (by assumption) ?_
      rotate_left
      focus ((intro w hSw; (try dsimp only at hSw); go_simp); try with_reducible rfl)
      (try simp only [Act.put, List.getElem_toArray, List.getElem_cons_zero, List.getElem_cons_succ, List.setIfInBounds_toArray, List.set_cons_zero, List.set_cons_succ])
      refine wpAnyJ_take0 (i := 7) (v := ?_) rfl (by kernel_rfl) (by kernel_rfl) (by kernel_rfl) (fun _ _ _ h => h) (Or.inl ⟨by rfl, ?_⟩) ?_
      rotate_left
      focus ((intro w hSw; clear hSw; go_simp); try with_reducible rfl)
      (try simp only [Act.put, List.getElem_toArray, List.getElem_cons_zero, List.getElem_cons_succ, List.setIfInBounds_toArray, List.set_cons_zero, List.set_cons_succ])
      refine wpAnyJ_take0 (i := 8) (v := ?_) rfl (by kernel_rfl) (by kernel_rfl) (by kernel_rfl) (fun _ _ _ h => h) (Or.inl ⟨by rfl, ?_⟩) ?_
      rotate_left
      focus ((intro w hSw; clear hSw; go_simp); try with_reducible rfl)
      (try simp only [Act.put, List.getElem_toArray, List.getElem_cons_zero, List.getElem_cons_succ, List.setIfInBounds_toArray, List.set_cons_zero, List.set_cons_succ])
      refine wpAnyJ_take0 (i := 9) (v := ?_) rfl (by kernel_rfl) (by kernel_rfl) (by kernel_rfl) (fun _ _ _ h => h) (Or.inl ⟨by rfl, ?_⟩) ?_
      rotate_left
      focus ((intro w hSw; clear hSw; go_simp); try with_reducible rfl)
      (try simp only [Act.put, List.getElem_toArray, List.getElem_cons_zero, List.getElem_cons_succ, List.setIfInBounds_toArray, List.set_cons_zero, List.set_cons_succ])
      refine wpAnyJ_take (i := 10) (v := ?_) rfl (by kernel_rfl) (by kernel_rfl) (by kernel_rfl) (by kernel_rfl) (fun _ _ _ h => h) (Or.inl ⟨by rfl, ?_⟩) (by assumption) ?_
      rotate_left
      focus ((intro w hSw; (try dsimp only at hSw); go_simp); try with_reducible rfl)
      (try simp only [Act.put, List.getElem_toArray, List.getElem_cons_zero, List.getElem_cons_succ, List.setIfInBounds_toArray, List.set_cons_zero, List.set_cons_succ])
      refine wpAnyJ_ready (rs := [6]) (by kernel_rfl) (by simp) ?_
      refine AllReadyJ.cons rfl (fun KK hKK => ?_) AllReadyJ.nil
      go_simp
      go_at_call 52
      refine (HST.del1 (i := 0) (by rw [HA.out]; omega) (by rw [HA.out]; omega) 1 rfl 0 rfl).mono ?_
      rintro e u1 ⟨rfl, HST2⟩
      have hsub : kk + 1 - 1 = kk := by omega
      rw [hsub] at HST2
      (try rw [hsub])
      clear hsub
      clear HST
      have HST := HST2
      clear HST2
      have hH2 : (fun u : World => u.cell? ⟨pa, 0, none⟩ = some (.slice (some ⟨ga, 0, none⟩) (kk + 1) ca1) ∧ u.cell? ⟨pa, 2, none⟩ = some (.slice (some ⟨ga3, 0, none⟩) (kk + 2) ca3)) u1 := ⟨HST.cell.1, HST.cell.2.2.1⟩
      refine hKK.out _ _ (fun _ _ => hH2) ?_
      clear hKK KK
      clear hHeld
      have hHeld := hH2
      clear hH2 u0
      revert u1
      intro u0 HST hHeld
      (try simp only [Act.put, List.getElem_toArray, List.getElem_cons_zero, List.getElem_cons_succ, List.setIfInBounds_toArray, List.set_cons_zero, List.set_cons_succ])
      refine wpAnyJ_ready (rs := [11]) (by kernel_rfl) (by simp) ?_
      refine AllReadyJ.cons rfl (fun KK hKK => ?_) AllReadyJ.nil
      go_simp
      go_at_call 67
      refine (HST.del3 (i := 0) (by rw [HCA.out]; omega) (by rw [HCA.out]; omega) 1 rfl 0 rfl).mono ?_
      rintro e u1 ⟨rfl, HST2⟩
      have hsub : kk + 2 - 1 = kk + 1 := by omega
      rw [hsub] at HST2
      (try rw [hsub])
      clear hsub
      clear HST
      have HST := HST2
      clear HST2
      have hH2 : (fun u : World => u.cell? ⟨pa, 0, none⟩ = some (.slice (some ⟨ga, 0, none⟩) (kk + 1) ca1) ∧ u.cell? ⟨pa, 2, none⟩ = some (.slice (some ⟨ga3, 0, none⟩) (kk + 2) ca3)) u1 := ⟨HST.cell.1, HST.cell.2.2.1⟩
      refine hKK.out _ _ (fun _ _ => hH2) ?_
      clear hKK KK
      clear hHeld
      have hHeld := hH2
      clear hH2 u0
      revert u1
      intro u0 HST hHeld
      (try simp only [Act.put, List.getElem_toArray, List.getElem_cons_zero, List.getElem_cons_succ, List.setIfInBounds_toArray, List.set_cons_zero, List.set_cons_succ])
      refine wpAnyJ_take0 (i := 12) (v := ?_) rfl (by kernel_rfl) (by kernel_rfl) (by kernel_rfl) (fun _ _ _ h => h) (Or.inl ⟨by rfl, ?_⟩) ?_
      rotate_left
      focus ((intro w hSw; clear hSw; go_simp); try with_reducible rfl)
      (try simp only [Act.put, List.getElem_toArray, List.getElem_cons_zero, List.getElem_cons_succ, List.setIfInBounds_toArray, List.set_cons_zero, List.set_cons_succ])
      refine wpAnyJ_take0 (i := 13) (v := ?_) rfl (by kernel_rfl) (by kernel_rfl) (by kernel_rfl) (fun _ _ _ h => h) (Or.inl ⟨by rfl, ?_⟩) ?_
      rotate_left
      focus ((intro w hSw; clear hSw; go_simp); try with_reducible rfl)
      (try simp only [Act.put, List.getElem_toArray, List.getElem_cons_zero, List.getElem_cons_succ, List.setIfInBounds_toArray, List.set_cons_zero, List.set_cons_succ])
      refine wpAnyJ_ready (rs := [14]) (by kernel_rfl) (by simp) ?_
      refine AllReadyJ.cons rfl (fun KK hKK => ?_) AllReadyJ.nil
      have hz1 := HST.cell.2.2.2 0
      have hz2 := HST.cell.1
      go_simp
      clear hz1 hz2
      replace HST := HST.put0 (.slice (some ⟨ga, 0, none⟩) kk ca1)
      refine hKK.out _ _ (fun h => absurd h (by decide)) ?_
      clear hKK KK
      generalize u0.setCell ⟨pa, 0, none⟩ (.slice (some ⟨ga, 0, none⟩) kk ca1) = u1 at HST ⊢
      (try clear hHeld)
      clear u0
      revert u1
      intro u0 HST
      (try simp only [Act.put, List.getElem_toArray, List.getElem_cons_zero, List.getElem_cons_succ, List.setIfInBounds_toArray, List.set_cons_zero, List.set_cons_succ])
      refine wpAnyJ_take0 (i := 15) (v := ?_) rfl (by kernel_rfl) (by kernel_rfl) (by kernel_rfl) (fun _ _ _ h => h) (Or.inl ⟨by rfl, ?_⟩) ?_
      rotate_left
      focus ((intro w hSw; clear hSw; go_simp); try with_reducible rfl)
      (try simp only [Act.put, List.getElem_toArray, List.getElem_cons_zero, List.getElem_cons_succ, List.setIfInBounds_toArray, List.set_cons_zero, List.set_cons_succ])
      refine wpAnyJ_take0 (i := 16) (v := ?_) rfl (by kernel_rfl) (by kernel_rfl) (by kernel_rfl) (fun _ _ _ h => h) (Or.inl ⟨by rfl, ?_⟩) ?_
      rotate_left
      focus ((intro w hSw; clear hSw; go_simp); try with_reducible rfl)
      (try simp only [Act.put, List.getElem_toArray, List.getElem_cons_zero, List.getElem_cons_succ, List.setIfInBounds_toArray, List.set_cons_zero, List.set_cons_succ])
      refine wpAnyJ_ready (rs := [17]) (by kernel_rfl) (by simp) ?_
      refine AllReadyJ.cons rfl (fun KK hKK => ?_) AllReadyJ.nil
      have hz1 := HST.cell.2.2.2 2
      have hz2 := HST.cell.2.2.1
      go_simp
      clear hz1 hz2
      replace HST := HST.put2 (.slice (some ⟨ga3, 0, none⟩) (kk + 1) ca3)
      refine hKK.out _ _ (fun h => absurd h (by decide)) ?_
      clear hKK KK
      generalize u0.setCell ⟨pa, 2, none⟩ (.slice (some ⟨ga3, 0, none⟩) (kk + 1) ca3) = u1 at HST ⊢
      (try clear hHeld)
      clear u0
      revert u1
      intro u0 HST
      (try simp only [Act.put, List.getElem_toArray, List.getElem_cons_zero, List.getElem_cons_succ, List.setIfInBounds_toArray, List.set_cons_zero, List.set_cons_succ])
      refine wpAnyJ_done (by kernel_rfl) ?_ _
      refine NoPanic.normal ?_
      have T4 := Lib.hid (T3.out.upd_a HST.end HST.fr)
      clear HST T3
      go_wp2_with fail
      rw [← HQ.out]
      refine ⟨rfl, _, results_none rfl _ _ _, rfl, ?_⟩
      rw [HA.out, HCA.out]
      exact ⟨_, _, _, _, _, _, _, _, _, T4.out⟩
  · go_simp
    replace HST := HST.alloc (.pointer (some ⟨y, 0, none⟩)) 61
    have hH2 : (fun u : World => u.cell? ⟨pb, 0, none⟩ = some (.slice ab1 kb cb1) ∧ u.cell? ⟨pb, 2, none⟩ = some (.slice ab3 cbl cb3) ∧ u.cell? ⟨pn, 0, none⟩ = some (.slice (some ⟨gn, 0, none⟩) kn cn1) ∧ u.cell? ⟨gn, t, none⟩ = some (.string z) ∧ u.cell? ⟨pa, 2, none⟩ = some (.slice (some ⟨ga3, 0, none⟩) (kk + 2) ca3) ∧ u.cell? ⟨ga3, 0, none⟩ = some (.pointer (some ⟨y, 0, none⟩))) (u0.alloc (.cells #[.pointer (some ⟨y, 0, none⟩)] 61)) := ⟨HST.cell.1, HST.cell.2.2.1, HST.other dn0 z0, HST.other kz z2, HST.other da2 z1, HST.other ky z3⟩
    refine hKK.out _ _ (fun _ _ => hH2) ?_
    clear hKK KK
    generalize u0.heap.size = vb2 at HST ⊢
    generalize u0.alloc (.cells #[.pointer (some ⟨y, 0, none⟩)] 61) = u1 at HST hH2 ⊢
    clear hHeld
    have hHeld := hH2
    clear hH2
    clear u0
    revert u1
    intro u0 HST hHeld
    (try simp only [Act.put, List.getElem_toArray, List.getElem_cons_zero, List.getElem_cons_succ, List.setIfInBounds_toArray, List.set_cons_zero, List.set_cons_succ])
    refine wpAnyJ_ready (rs := [13]) (by kernel_rfl) (by simp) ?_
    refine AllReadyJ.cons rfl (fun KK hKK => ?_) AllReadyJ.nil
    go_simp
    replace HST := HST.alloc (.string z) 9
    have hH2 : (fun u : World => u.cell? ⟨pb, 0, none⟩ = some (.slice ab1 kb cb1) ∧ u.cell? ⟨pb, 2, none⟩ = some (.slice ab3 cbl cb3) ∧ u.cell? ⟨pn, 0, none⟩ = some (.slice (some ⟨gn, 0, none⟩) kn cn1) ∧ u.cell? ⟨gn, t, none⟩ = some (.string z) ∧ u.cell? ⟨pa, 2, none⟩ = some (.slice (some ⟨ga3, 0, none⟩) (kk + 2) ca3) ∧ u.cell? ⟨ga3, 0, none⟩ = some (.pointer (some ⟨y, 0, none⟩))) (u0.alloc (.cells #[.string z] 9)) := ⟨HST.cell.1, HST.cell.2.2.1, HST.other dn0 z0, HST.other kz z2, HST.other da2 z1, HST.other ky z3⟩
    refine hKK.out _ _ (fun _ _ => hH2) ?_
    clear hKK KK
    generalize u0.heap.size = vb1 at HST ⊢
    generalize u0.alloc (.cells #[.string z] 9) = u1 at HST hH2 ⊢
    clear hHeld
    have hHeld := hH2
    clear hH2
    clear u0
    revert u1
    intro u0 HST hHeld
    (try simp only [Act.put, List.getElem_toArray, List.getElem_cons_zero, List.getElem_cons_succ, List.setIfInBounds_toArray, List.set_cons_zero, List.set_cons_succ])
    refine wpAnyJ_ready (rs := [14]) (by kernel_rfl) (by simp) ?_
    refine AllReadyJ.cons rfl (fun KK hKK => ?_) AllReadyJ.nil
    refine step_append_arr (by rfl) _ _ 27 (by rfl) Try.underlying27 siS szS s1S s2S rfl (by decide) _ _ _ ((Kb).map Value.string) (by rfl) HST.r1 (str_one _) (some ⟨vb1, 0, none⟩) (1) 1 _ (([z]).map Value.string) (by rfl) (by simp) (str_one _) (fun h => by cases h) (HST.one (t := 9) (by simp)) (by have := HSZ.out.1; simp; omega) ?_
    intro x1 c1 u1 h1 h2 h3
    have HST2 := HST.row1 h2 h3 (by rw [← List.map_append] at h1; exact h1)
    clear h1 h2 h3 HST
    have HST := HST2
    clear HST2
    have hH2 : (fun u : World => u.cell? ⟨pb, 0, none⟩ = some (.slice ab1 kb cb1) ∧ u.cell? ⟨pb, 2, none⟩ = some (.slice ab3 cbl cb3) ∧ u.cell? ⟨pn, 0, none⟩ = some (.slice (some ⟨gn, 0, none⟩) kn cn1) ∧ u.cell? ⟨gn, t, none⟩ = some (.string z) ∧ u.cell? ⟨pa, 2, none⟩ = some (.slice (some ⟨ga3, 0, none⟩) (kk + 2) ca3) ∧ u.cell? ⟨ga3, 0, none⟩ = some (.pointer (some ⟨y, 0, none⟩))) u1 := ⟨HST.cell.1, HST.cell.2.2.1, HST.other dn0 z0, HST.other kz z2, HST.other da2 z1, HST.other ky z3⟩
    refine hKK.out _ _ (fun _ _ => hH2) ?_
    clear hKK KK
    clear hHeld
    have hHeld := hH2
    clear hH2 u0
    revert u1
    intro u0 HST hHeld
    (try simp only [Act.put, List.getElem_toArray, List.getElem_cons_zero, List.getElem_cons_succ, List.setIfInBounds_toArray, List.set_cons_zero, List.set_cons_succ])
    refine wpAnyJ_ready (rs := [26]) (by kernel_rfl) (by simp) ?_
    refine AllReadyJ.cons rfl (fun KK hKK => ?_) AllReadyJ.nil
    refine step_append_arr (by rfl) _ _ 67 (by rfl) Try.underlying67 siP szP s1P s2P rfl (by decide) _ _ _ ((Cb).map ptrV) (by rfl) HST.r3 (ptr_one _) (some ⟨vb2, 0, none⟩) (1) 1 _ (([y]).map ptrV) (by rfl) (by simp) (ptr_one _) (fun h => by cases h) (HST.one (t := 61) (by simp [ptrV])) (by have := HSZ.out.2; simp; omega) ?_
    intro x2 c2 u1 h1 h2 h3
    have HST2 := HST.row3 h2 h3 (by rw [← List.map_append] at h1; exact h1)
    clear h1 h2 h3 HST
    have HST := HST2
    clear HST2
    have hH2 : (fun u : World => u.cell? ⟨pb, 0, none⟩ = some (.slice ab1 kb cb1) ∧ u.cell? ⟨pb, 2, none⟩ = some (.slice ab3 cbl cb3) ∧ u.cell? ⟨pn, 0, none⟩ = some (.slice (some ⟨gn, 0, none⟩) kn cn1) ∧ u.cell? ⟨gn, t, none⟩ = some (.string z) ∧ u.cell? ⟨pa, 2, none⟩ = some (.slice (some ⟨ga3, 0, none⟩) (kk + 2) ca3) ∧ u.cell? ⟨ga3, 0, none⟩ = some (.pointer (some ⟨y, 0, none⟩))) u1 := ⟨HST.cell.1, HST.cell.2.2.1, HST.other dn0 z0, HST.other kz z2, HST.other da2 z1, HST.other ky z3⟩
    refine hKK.out _ _ (fun _ _ => hH2) ?_
    clear hKK KK
    clear hHeld
    have hHeld := hH2
    clear hH2 u0
    revert u1
    intro u0 HST hHeld
    (try simp only [Act.put, List.getElem_toArray, List.getElem_cons_zero, List.getElem_cons_succ, List.setIfInBounds_toArray, List.set_cons_zero, List.set_cons_succ])
    refine wpAnyJ_take0 (i := 27) (v := ?_) rfl (by kernel_rfl) (by kernel_rfl) (by kernel_rfl) (fun _ _ _ h => h) (Or.inl ⟨by rfl, ?_⟩) ?_
    rotate_left
    focus ((intro w hSw; clear hSw; go_simp); try with_reducible rfl)
    (try simp only [Act.put, List.getElem_toArray, List.getElem_cons_zero, List.getElem_cons_succ, List.setIfInBounds_toArray, List.set_cons_zero, List.set_cons_succ])
    refine wpAnyJ_take0 (i := 28) (v := ?_) rfl (by kernel_rfl) (by kernel_rfl) (by kernel_rfl) (fun _ _ _ h => h) (Or.inl ⟨by rfl, ?_⟩) ?_
    rotate_left
    focus ((intro w hSw; clear hSw; go_simp); try with_reducible rfl)
    (try simp only [Act.put, List.getElem_toArray, List.getElem_cons_zero, List.getElem_cons_succ, List.setIfInBounds_toArray, List.set_cons_zero, List.set_cons_succ])
    refine wpAnyJ_ready (rs := [29]) (by kernel_rfl) (by simp) ?_
    refine AllReadyJ.cons rfl (fun KK hKK => ?_) AllReadyJ.nil
    have hz1 := HST.cell.2.2.2 0
    have hz2 := HST.cell.1
    go_simp
    clear hz1 hz2
    replace HST := HST.put0 (.slice x1 (kb + 1) c1)
    refine hKK.out _ _ (fun h => absurd h (by decide)) ?_
    clear hKK KK
    generalize u0.setCell ⟨pb, 0, none⟩ (.slice x1 (kb + 1) c1) = u1 at HST ⊢
    (try clear hHeld)
    clear u0
    revert u1
    intro u0 HST
    (try simp only [Act.put, List.getElem_toArray, List.getElem_cons_zero, List.getElem_cons_succ, List.setIfInBounds_toArray, List.set_cons_zero, List.set_cons_succ])
    refine wpAnyJ_take0 (i := 30) (v := ?_) rfl (by kernel_rfl) (by kernel_rfl) (by kernel_rfl) (fun _ _ _ h => h) (Or.inl ⟨by rfl, ?_⟩) ?_
    rotate_left
    focus ((intro w hSw; clear hSw; go_simp); try with_reducible rfl)
    (try simp only [Act.put, List.getElem_toArray, List.getElem_cons_zero, List.getElem_cons_succ, List.setIfInBounds_toArray, List.set_cons_zero, List.set_cons_succ])
    refine wpAnyJ_take0 (i := 31) (v := ?_) rfl (by kernel_rfl) (by kernel_rfl) (by kernel_rfl) (fun _ _ _ h => h) (Or.inl ⟨by rfl, ?_⟩) ?_
    rotate_left
    focus ((intro w hSw; clear hSw; go_simp); try with_reducible rfl)
    (try simp only [Act.put, List.getElem_toArray, List.getElem_cons_zero, List.getElem_cons_succ, List.setIfInBounds_toArray, List.set_cons_zero, List.set_cons_succ])
    refine wpAnyJ_ready (rs := [32]) (by kernel_rfl) (by simp) ?_
    refine AllReadyJ.cons rfl (fun KK hKK => ?_) AllReadyJ.nil
    have hz1 := HST.cell.2.2.2 2
    have hz2 := HST.cell.2.2.1
    go_simp
    clear hz1 hz2
    replace HST := HST.put2 (.slice x2 (cbl + 1) c2)
    refine hKK.out _ _ (fun h => absurd h (by decide)) ?_
    clear hKK KK
    generalize u0.setCell ⟨pb, 2, none⟩ (.slice x2 (cbl + 1) c2) = u1 at HST ⊢
    (try clear hHeld)
    clear u0
    revert u1
    intro u0 HST
    (try simp only [Act.put, List.getElem_toArray, List.getElem_cons_zero, List.getElem_cons_succ, List.setIfInBounds_toArray, List.set_cons_zero, List.set_cons_succ])
    refine wpAnyJ_done (by kernel_rfl) ?_ _
    refine NoPanic.normal ?_
    have T2 := TT.out.upd_b HST.end HST.fr
    clear HST
    generalize hu2 : u0 = u2 at T2 ⊢
    clear hu2
    obtain ⟨_, e9, kx2, _⟩ := T2.drew.a.key HX.out
    injection e9 with e9
    injection e9 with e9 _
    subst e9
    obtain ⟨_, e9, kz2, fz2⟩ := T2.drew.n.key HZ.out
    injection e9 with e9
    injection e9 with e9 _
    subst e9
    go_wp2_with fail
    refine wp_region_noPanic ?_
    refine wp_region_J (S := fun u : World => u.cell? ⟨pn, 0, none⟩ = some (.slice (some ⟨gn, 0, none⟩) kn cn1) ∧ u.cell? ⟨pa, 0, none⟩ = some (.slice (some ⟨ga, 0, none⟩) (kk + 1) ca1) ∧ u.cell? ⟨ga, 0, none⟩ = some (.string x)) (fun j => j == 12) (by kernel_rfl) ?_
    have hHeld : (fun u : World => u.cell? ⟨pn, 0, none⟩ = some (.slice (some ⟨gn, 0, none⟩) kn cn1) ∧ u.cell? ⟨pa, 0, none⟩ = some (.slice (some ⟨ga, 0, none⟩) (kk + 1) ca1) ∧ u.cell? ⟨ga, 0, none⟩ = some (.string x)) u2.drew := ⟨T2.drew.n.cells.1, T2.drew.a.cells.1, kx2⟩
    refine wpAnyJ_take0 (i := 0) (v := ?_) rfl (by kernel_rfl) (by kernel_rfl) (by kernel_rfl) (fun _ _ _ h => h) (Or.inl ⟨by rfl, ?_⟩) ?_
    rotate_left
    focus ((intro w hSw; clear hSw; go_simp); try with_reducible rfl)
    (try simp only [Act.put, List.getElem_toArray, List.getElem_cons_zero, List.getElem_cons_succ, List.setIfInBounds_toArray, List.set_cons_zero, List.set_cons_succ])
    refine wpAnyJ_take0 (i := 1) (v := ?_) rfl (by kernel_rfl) (by kernel_rfl) (by kernel_rfl) (fun _ _ _ h => h) (Or.inl ⟨by rfl, ?_⟩) ?_
    rotate_left
    focus ((intro w hSw; clear hSw; go_simp); try with_reducible rfl)
    (try simp only [Act.put, List.getElem_toArray, List.getElem_cons_zero, List.getElem_cons_succ, List.setIfInBounds_toArray, List.set_cons_zero, List.set_cons_succ])
    refine wpAnyJ_take0 (i := 2) (v := ?_) rfl (by kernel_rfl) (by kernel_rfl) (by kernel_rfl) (fun _ _ _ h => h) (Or.inl ⟨by rfl, ?_⟩) ?_
    rotate_left
    focus ((intro w hSw; clear hSw; go_simp); try with_reducible rfl)
    (try simp only [Act.put, List.getElem_toArray, List.getElem_cons_zero, List.getElem_cons_succ, List.setIfInBounds_toArray, List.set_cons_zero, List.set_cons_succ])
    refine wpAnyJ_take (i := 3) (v := ?_) rfl (by kernel_rfl) (by kernel_rfl) (by kernel_rfl) (by kernel_rfl) (fun _ _ _ h => h) (Or.inl ⟨by rfl, ?_⟩) (by assumption) ?_
    rotate_left
    focus ((intro w hSw; (try dsimp only at hSw); go_simp); try with_reducible rfl)
    (try simp only [Act.put, List.getElem_toArray, List.getElem_cons_zero, List.getElem_cons_succ, List.setIfInBounds_toArray, List.set_cons_zero, List.set_cons_succ])
    refine wpAnyJ_take0 (i := 4) (v := ?_) rfl (by kernel_rfl) (by kernel_rfl) (by kernel_rfl) (fun _ _ _ h => h) (Or.inl ⟨by rfl, ?_⟩) ?_
    rotate_left
    focus ((intro w hSw; clear hSw; go_simp); try with_reducible rfl)
    (try simp only [Act.put, List.getElem_toArray, List.getElem_cons_zero, List.getElem_cons_succ, List.setIfInBounds_toArray, List.set_cons_zero, List.set_cons_succ])
    refine wpAnyJ_take0 (i := 5) (v := ?_) rfl (by kernel_rfl) (by kernel_rfl) (by kernel_rfl) (fun _ _ _ h => h) (Or.inl ⟨by rfl, ?_⟩) ?_
    rotate_left
    focus ((intro w hSw; clear hSw; go_simp); try with_reducible rfl)
    (try simp only [Act.put, List.getElem_toArray, List.getElem_cons_zero, List.getElem_cons_succ, List.setIfInBounds_toArray, List.set_cons_zero, List.set_cons_succ])
    refine wpAnyJ_take0 (i := 6) (v := ?_) rfl (by kernel_rfl) (by kernel_rfl) (by kernel_rfl) (fun _ _ _ h => h) (Or.inl ⟨by rfl, ?_⟩) ?_
    rotate_left
    focus ((intro w hSw; clear hSw; go_simp); try with_reducible rfl)
    (try simp only [Act.put, List.getElem_toArray, List.getElem_cons_zero, List.getElem_cons_succ, List.setIfInBounds_toArray, List.set_cons_zero, List.set_cons_succ])
    refine wpAnyJ_take0 (i := 7) (v := ?_) rfl (by kernel_rfl) (by kernel_rfl) (by kernel_rfl) (fun _ _ _ h => h) (Or.inl ⟨by rfl, ?_⟩) ?_
    rotate_left
    focus ((intro w hSw; clear hSw; go_simp); try with_reducible rfl)
    (try simp only [Act.put, List.getElem_toArray, List.getElem_cons_zero, List.getElem_cons_succ, List.setIfInBounds_toArray, List.set_cons_zero, List.set_cons_succ])
    refine wpAnyJ_take (i := 8) (v := ?_) rfl (by kernel_rfl) (by kernel_rfl) (by kernel_rfl) (by kernel_rfl) (fun _ _ _ h => h) (Or.inl ⟨by rfl, ?_⟩) (by assumption) ?_
    rotate_left
    focus ((intro w hSw; (try dsimp only at hSw); go_simp); try with_reducible rfl)
    (try simp only [Act.put, List.getElem_toArray, List.getElem_cons_zero, List.getElem_cons_succ, List.setIfInBounds_toArray, List.set_cons_zero, List.set_cons_succ])
    refine wpAnyJ_take0 (i := 9) (v := ?_) rfl (by kernel_rfl) (by kernel_rfl) (by kernel_rfl) (fun _ _ _ h => h) (Or.inl ⟨by rfl, ?_⟩) ?_
    rotate_left
    focus ((intro w hSw; clear hSw; go_simp); try with_reducible rfl)
    (try simp only [Act.put, List.getElem_toArray, List.getElem_cons_zero, List.getElem_cons_succ, List.setIfInBounds_toArray, List.set_cons_zero, List.set_cons_succ])
    refine wpAnyJ_take (i := 10) (v := ?_) rfl (by kernel_rfl) (by kernel_rfl) (by kernel_rfl) (by kernel_rfl) (fun _ _ _ h => h) (Or.inl ⟨by rfl, ?_⟩) (by assumption) ?_
    rotate_left
    focus ((intro w hSw; (try dsimp only at hSw); go_simp); try with_reducible rfl)
    (try simp only [Act.put, List.getElem_toArray, List.getElem_cons_zero, List.getElem_cons_succ, List.setIfInBounds_toArray, List.set_cons_zero, List.set_cons_succ])
    refine wpAnyJ_take0 (i := 11) (v := ?_) rfl (by kernel_rfl) (by kernel_rfl) (by kernel_rfl) (fun _ _ _ h => h) (Or.inl ⟨by rfl, ?_⟩) ?_
    rotate_left
    focus ((intro w hSw; clear hSw; go_simp); try with_reducible rfl)
    (try simp only [Act.put, List.getElem_toArray, List.getElem_cons_zero, List.getElem_cons_succ, List.setIfInBounds_toArray, List.set_cons_zero, List.set_cons_succ])
    refine wpAnyJ_ready (rs := [12]) (by kernel_rfl) (by simp) ?_
    refine AllReadyJ.cons rfl (fun KK hKK => ?_) AllReadyJ.nil
    go_simp
    refine hKK.out _ _ (fun h => absurd h (by decide)) ?_
    clear hKK KK hHeld
    (try simp only [Act.put, List.getElem_toArray, List.getElem_cons_zero, List.getElem_cons_succ, List.setIfInBounds_toArray, List.set_cons_zero, List.set_cons_succ])
    refine wpAnyJ_done (by kernel_rfl) ?_ _
    refine NoPanic.normal ?_
    have h3 := T2.n.set1 (fun k => by have := T2.one k; omega) t x
    have T3 := (T2.upd_n h3.1 h3.2).drew
    generalize (u2.setCell ⟨gn, t, none⟩ (.string x)).drew = u3 at T3 ⊢
    have HST := (St.start T3.a (fun k => by have := T3.one k; omega)).drew
    have T3 := Lib.hid T3
    clear T2 h3 kz2 kx2 fz2
    go_wp2_with fail
    refine wp_region_noPanic ?_
    refine wp_region_J (S := fun u : World => u.cell? ⟨pa, 0, none⟩ = some (.slice (some ⟨ga, 0, none⟩) (kk + 1) ca1) ∧ u.cell? ⟨pa, 2, none⟩ = some (.slice (some ⟨ga3, 0, none⟩) (kk + 2) ca3)) (fun j => j == 14 || j == 17) (by kernel_rfl) ?_
    obtain ⟨u0, hu0⟩ : ∃ u, u3.drew = u := ⟨_, rfl⟩
    rw [hu0] at HST ⊢
    clear hu0
    have hHeld : (fun u : World => u.cell? ⟨pa, 0, none⟩ = some (.slice (some ⟨ga, 0, none⟩) (kk + 1) ca1) ∧ u.cell? ⟨pa, 2, none⟩ = some (.slice (some ⟨ga3, 0, none⟩) (kk + 2) ca3)) u0 := ⟨HST.cell.1, HST.cell.2.2.1⟩
    refine wpAnyJ_take0 (i := 0) (v := ?_) rfl (by kernel_rfl) (by kernel_rfl) (by kernel_rfl) (fun _ _ _ h => h) (Or.inl ⟨by rfl, ?_⟩) ?_
    rotate_left
    focus ((intro w hSw; clear hSw; go_simp); try with_reducible rfl)
    (try simp only [Act.put, List.getElem_toArray, List.getElem_cons_zero, List.getElem_cons_succ, List.setIfInBounds_toArray, List.set_cons_zero, List.set_cons_succ])
    refine wpAnyJ_take0 (i := 1) (v := ?_) rfl (by kernel_rfl) (by kernel_rfl) (by kernel_rfl) (fun _ _ _ h => h) (Or.inl ⟨by rfl, ?_⟩) ?_
    rotate_left
    focus ((intro w hSw; clear hSw; go_simp); try with_reducible rfl)
    (try simp only [Act.put, List.getElem_toArray, List.getElem_cons_zero, List.getElem_cons_succ, List.setIfInBounds_toArray, List.set_cons_zero, List.set_cons_succ])
    refine wpAnyJ_take0 (i := 2) (v := ?_) rfl (by kernel_rfl) (by kernel_rfl) (by kernel_rfl) (fun _ _ _ h => h) (Or.inl ⟨by rfl, ?_⟩) ?_
    rotate_left
    focus ((intro w hSw; clear hSw; go_simp); try with_reducible rfl)
    (try simp only [Act.put, List.getElem_toArray, List.getElem_cons_zero, List.getElem_cons_succ, List.setIfInBounds_toArray, List.set_cons_zero, List.set_cons_succ])
    refine wpAnyJ_take0 (i := 3) (v := ?_) rfl (by kernel_rfl) (by kernel_rfl) (by kernel_rfl) (fun _ _ _ h => h) (Or.inl ⟨by rfl, ?_⟩) ?_
    rotate_left
    focus ((intro w hSw; clear hSw; go_simp); try with_reducible rfl)
    (try simp only [Act.put, List.getElem_toArray, List.getElem_cons_zero, List.getElem_cons_succ, List.setIfInBounds_toArray, List.set_cons_zero, List.set_cons_succ])
    refine wpAnyJ_take0 (i := 4) (v := ?_) rfl (by kernel_rfl) (by kernel_rfl) (by kernel_rfl) (fun _ _ _ h => h) (Or.inl ⟨by rfl, ?_⟩) ?_
    rotate_left
    focus ((intro w hSw; clear hSw; go_simp); try with_reducible rfl)
    (try simp only [Act.put, List.getElem_toArray, List.getElem_cons_zero, List.getElem_cons_succ, List.setIfInBounds_toArray, List.set_cons_zero, List.set_cons_succ])
    refine wpAnyJ_take (i := 5) (v := ?_) rfl (by kernel_rfl) (by kernel_rfl) (by kernel_rfl) (by kernel_rfl) (fun _ _ _ h => h) (Or.inl ⟨by rfl, ?_⟩) (by assumption) ?_
    rotate_left
    focus ((intro w hSw; (try dsimp only at hSw); go_simp); try with_reducible rfl)
    (try simp only [Act.put, List.getElem_toArray, List.getElem_cons_zero, List.getElem_cons_succ, List.setIfInBounds_toArray, List.set_cons_zero, List.set_cons_succ])
    refine wpAnyJ_take0 (i := 7) (v := ?_) rfl (by kernel_rfl) (by kernel_rfl) (by kernel_rfl) (fun _ _ _ h => h) (Or.inl ⟨by rfl, ?_⟩) ?_
    rotate_left
    focus ((intro w hSw; clear hSw; go_simp); try with_reducible rfl)
    (try simp only [Act.put, List.getElem_toArray, List.getElem_cons_zero, List.getElem_cons_succ, List.setIfInBounds_toArray, List.set_cons_zero, List.set_cons_succ])
    refine wpAnyJ_take0 (i := 8) (v := ?_) rfl (by kernel_rfl) (by kernel_rfl) (by kernel_rfl) (fun _ _ _ h => h) (Or.inl ⟨by rfl, ?_⟩) ?_
    rotate_left
    focus ((intro w hSw; clear hSw; go_simp); try with_reducible rfl)
    (try simp only [Act.put, List.getElem_toArray, List.getElem_cons_zero, List.getElem_cons_succ, List.setIfInBounds_toArray, List.set_cons_zero, List.set_cons_succ])
    refine wpAnyJ_take0 (i := 9) (v := ?_) rfl (by kernel_rfl) (by kernel_rfl) (by kernel_rfl) (fun _ _ _ h => h) (Or.inl ⟨by rfl, ?_⟩) ?_
    rotate_left
    focus ((intro w hSw; clear hSw; go_simp); try with_reducible rfl)
    (try simp only [Act.put, List.getElem_toArray, List.getElem_cons_zero, List.getElem_cons_succ, List.setIfInBounds_toArray, List.set_cons_zero, List.set_cons_succ])
    refine wpAnyJ_take (i := 10) (v := ?_) rfl (by kernel_rfl) (by kernel_rfl) (by kernel_rfl) (by kernel_rfl) (fun _ _ _ h => h) (Or.inl ⟨by rfl, ?_⟩) (by assumption) ?_
    rotate_left
    focus ((intro w hSw; (try dsimp only at hSw); go_simp); try with_reducible rfl)
    (try simp only [Act.put, List.getElem_toArray, List.getElem_cons_zero, List.getElem_cons_succ, List.setIfInBounds_toArray, List.set_cons_zero, List.set_cons_succ])
    refine wpAnyJ_ready (rs := [6]) (by kernel_rfl) (by simp) ?_
    refine AllReadyJ.cons rfl (fun KK hKK => ?_) AllReadyJ.nil
    go_simp
    go_at_call 52
    refine (HST.del1 (i := 0) (by rw [HA.out]; omega) (by rw [HA.out]; omega) 1 rfl 0 rfl).mono ?_
    rintro e u1 ⟨rfl, HST2⟩
    have hsub : kk + 1 - 1 = kk := by omega
    rw [hsub] at HST2
    (try rw [hsub])
    clear hsub
    clear HST
    have HST := HST2
    clear HST2
    have hH2 : (fun u : World => u.cell? ⟨pa, 0, none⟩ = some (.slice (some ⟨ga, 0, none⟩) (kk + 1) ca1) ∧ u.cell? ⟨pa, 2, none⟩ = some (.slice (some ⟨ga3, 0, none⟩) (kk + 2) ca3)) u1 := ⟨HST.cell.1, HST.cell.2.2.1⟩
    refine hKK.out _ _ (fun _ _ => hH2) ?_
    clear hKK KK
    clear hHeld
    have hHeld := hH2
    clear hH2 u0
    revert u1
    intro u0 HST hHeld
    (try simp only [Act.put, List.getElem_toArray, List.getElem_cons_zero, List.getElem_cons_succ, List.setIfInBounds_toArray, List.set_cons_zero, List.set_cons_succ])
    refine wpAnyJ_ready (rs := [11]) (by kernel_rfl) (by simp) ?_
    refine AllReadyJ.cons rfl (fun KK hKK => ?_) AllReadyJ.nil
    go_simp
    go_at_call 67
    refine (HST.del3 (i := 0) (by rw [HCA.out]; omega) (by rw [HCA.out]; omega) 1 rfl 0 rfl).mono ?_
    rintro e u1 ⟨rfl, HST2⟩
    have hsub : kk + 2 - 1 = kk + 1 := by omega
    rw [hsub] at HST2
    (try rw [hsub])
    clear hsub
    clear HST
    have HST := HST2
    clear HST2
    have hH2 : (fun u : World => u.cell? ⟨pa, 0, none⟩ = some (.slice (some ⟨ga, 0, none⟩) (kk + 1) ca1) ∧ u.cell? ⟨pa, 2, none⟩ = some (.slice (some ⟨ga3, 0, none⟩) (kk + 2) ca3)) u1 := ⟨HST.cell.1, HST.cell.2.2.1⟩
    refine hKK.out _ _ (fun _ _ => hH2) ?_
    clear hKK KK
    clear hHeld
    have hHeld := hH2
    clear hH2 u0
    revert u1
    intro u0 HST hHeld
    (try simp only [Act.put, List.getElem_toArray, List.getElem_cons_zero, List.getElem_cons_succ, List.setIfInBounds_toArray, List.set_cons_zero, List.set_cons_succ])
    refine wpAnyJ_take0 (i := 12) (v := ?_) rfl (by kernel_rfl) (by kernel_rfl) (by kernel_rfl) (fun _ _ _ h => h) (Or.inl ⟨by rfl, ?_⟩) ?_
    rotate_left
    focus ((intro w hSw; clear hSw; go_simp); try with_reducible rfl)
    (try simp only [Act.put, List.getElem_toArray, List.getElem_cons_zero, List.getElem_cons_succ, List.setIfInBounds_toArray, List.set_cons_zero, List.set_cons_succ])
    refine wpAnyJ_take0 (i := 13) (v := ?_) rfl (by kernel_rfl) (by kernel_rfl) (by kernel_rfl) (fun _ _ _ h => h) (Or.inl ⟨by rfl, ?_⟩) ?_
    rotate_left
    focus ((intro w hSw; clear hSw; go_simp); try with_reducible rfl)
    (try simp only [Act.put, List.getElem_toArray, List.getElem_cons_zero, List.getElem_cons_succ, List.setIfInBounds_toArray, List.set_cons_zero, List.set_cons_succ])
    refine wpAnyJ_ready (rs := [14]) (by kernel_rfl) (by simp) ?_
    refine AllReadyJ.cons rfl (fun KK hKK => ?_) AllReadyJ.nil
    have hz1 := HST.cell.2.2.2 0
    have hz2 := HST.cell.1
    go_simp
    clear hz1 hz2
    replace HST := HST.put0 (.slice (some ⟨ga, 0, none⟩) kk ca1)
    refine hKK.out _ _ (fun h => absurd h (by decide)) ?_
    clear hKK KK
    generalize u0.setCell ⟨pa, 0, none⟩ (.slice (some ⟨ga, 0, none⟩) kk ca1) = u1 at HST ⊢
    (try clear hHeld)
    clear u0
    revert u1
    intro u0 HST
    (try simp only [Act.put, List.getElem_toArray, List.getElem_cons_zero, List.getElem_cons_succ, List.setIfInBounds_toArray, List.set_cons_zero, List.set_cons_succ])
    refine wpAnyJ_take0 (i := 15) (v := ?_) rfl (by kernel_rfl) (by kernel_rfl) (by kernel_rfl) (fun _ _ _ h => h) (Or.inl ⟨by rfl, ?_⟩) ?_
    rotate_left
    focus ((intro w hSw; clear hSw; go_simp); try with_reducible rfl)
    (try simp only [Act.put, List.getElem_toArray, List.getElem_cons_zero, List.getElem_cons_succ, List.setIfInBounds_toArray, List.set_cons_zero, List.set_cons_succ])
    refine wpAnyJ_take0 (i := 16) (v := ?_) rfl (by kernel_rfl) (by kernel_rfl) (by kernel_rfl) (fun _ _ _ h => h) (Or.inl ⟨by rfl, ?_⟩) ?_
    rotate_left
    focus ((intro w hSw; clear hSw; go_simp); try with_reducible rfl)
    (try simp only [Act.put, List.getElem_toArray, List.getElem_cons_zero, List.getElem_cons_succ, List.setIfInBounds_toArray, List.set_cons_zero, List.set_cons_succ])
    refine wpAnyJ_ready (rs := [17]) (by kernel_rfl) (by simp) ?_
    refine AllReadyJ.cons rfl (fun KK hKK => ?_) AllReadyJ.nil
    have hz1 := HST.cell.2.2.2 2
    have hz2 := HST.cell.2.2.1
    go_simp
    clear hz1 hz2
    replace HST := HST.put2 (.slice (some ⟨ga3, 0, none⟩) (kk + 1) ca3)
    refine hKK.out _ _ (fun h => absurd h (by decide)) ?_
    clear hKK KK
    generalize u0.setCell ⟨pa, 2, none⟩ (.slice (some ⟨ga3, 0, none⟩) (kk + 1) ca3) = u1 at HST ⊢
    (try clear hHeld)
    clear u0
    revert u1
    intro u0 HST
    (try simp only [Act.put, List.getElem_toArray, List.getElem_cons_zero, List.getElem_cons_succ, List.setIfInBounds_toArray, List.set_cons_zero, List.set_cons_succ])
    refine wpAnyJ_done (by kernel_rfl) ?_ _
    refine NoPanic.normal ?_
    have T4 := Lib.hid (T3.out.upd_a HST.end HST.fr)
    clear HST T3
    go_wp2_with fail
    rw [← HQ.out]
    refine ⟨rfl, _, results_none rfl _ _ _, rfl, ?_⟩
    rw [HA.out, HCA.out]
    exact ⟨_, _, _, _, _, _, _, _, _, T4.out⟩
end Go.Proofs.Ytjoopjmcnkiieaa

/- join: leaves. Conditions: the three nodes are there, apart. -/
namespace Go.Proofs.Ytjoopjmcnkiieaa
open Go.RowKit Go.Lib
set_option linter.unusedSimpArgs false
set_option linter.unusedVariables false

set_option maxRecDepth 100000 in
set_option maxHeartbeats 32000000 in
theorem join_l {w : World} {pn pa pb i : Nat} {n1 n2 n3 a1 a2 a3 b1 b2 b3 : Value} {Kn Ka Kb : List ByteArray} {Vn Va Vb : List Int} {Cn Ca Cb : List Nat} {z : ByteArray}
    (hn : NodeAt w pn n1 n2 n3 Kn Vn Cn) (ha : NodeAt w pa a1 a2 a3 Ka Va Ca) (hb : NodeAt w pb b1 b2 b3 Kb Vb Cb) (hone : ∀ k, ow pn n1 n2 n3 k + ow pa a1 a2 a3 k + ow pb b1 b2 b3 k ≤ 1)
    (hf : Cn[i]? = some pa) (ht : Cn[i + 1]? = some pb) (hsz : Kn.length ≤ 1000 ∧ Cn.length ≤ 1000 ∧ Ka.length ≤ 1000 ∧ Kb.length ≤ 1000 ∧ Cb.length ≤ 1000 ∧ Vb.length ≤ 1000 ∧ Ca.length ≤ 1000 ∧ Va.length ≤ 1000) (hz : Kn[i]? = some z) (hCA : Ca = []) :
    Calls Try.prog 63 #[.pointer (some ⟨pn, 0, none⟩), .int .i64 i] w (Lend3 pn pa pb n1 n2 n3 a1 a2 a3 b1 b2 b3 (Kn.eraseIdx i) Vn (Cn.eraseIdx (i + 1)) (Ka ++ Kb) (Va ++ Vb) Ca Kb Vb Cb w) := by
  obtain ⟨an1, cn1, an2, cn2, an3, cn3, rfl, rfl, rfl, ln1, ln2, ln3, mn1, mn2, mn3⟩ := hn.forms
  obtain ⟨aa1, ca1, aa2, ca2, aa3, ca3, rfl, rfl, rfl, la1, la2, la3, ma1, ma2, ma3⟩ := ha.forms
  obtain ⟨ab1, cb1, ab2, cb2, ab3, cb3, rfl, rfl, rfl, lb1, lb2, lb3, mb1, mb2, mb3⟩ := hb.forms
  have nb1 := hb.r1.none0
  have nb2 := hb.r2.none0
  have nb3 := hb.r3.none0
  have T0 := Tri.start hn ha hb hone
  obtain ⟨g3, rfl, kf, _⟩ := hn.kid hf
  obtain ⟨g3', e3, kt, _⟩ := hn.kid ht
  injection e3 with e3
  injection e3 with e3 _
  subst e3
  have hfl := (List.getElem?_eq_some_iff.1 hf).1
  have htl := (List.getElem?_eq_some_iff.1 ht).1
  have hzl := (List.getElem?_eq_some_iff.1 hz).1
  obtain ⟨gn, rfl, kz, _⟩ := hn.key hz
  obtain ⟨Q, hQ⟩ : ∃ Q, Lend3 pn pa pb (.slice (some ⟨gn, 0, none⟩) Kn.length cn1) (.slice an2 Vn.length cn2) (.slice (some ⟨g3, 0, none⟩) Cn.length cn3) (.slice aa1 Ka.length ca1) (.slice aa2 Va.length ca2) (.slice aa3 Ca.length ca3) (.slice ab1 Kb.length cb1) (.slice ab2 Vb.length cb2) (.slice ab3 Cb.length cb3) (Kn.eraseIdx i) Vn (Cn.eraseIdx (i + 1)) (Ka ++ Kb) (Va ++ Vb) Ca Kb Vb Cb w = Q := ⟨_, rfl⟩
  have HQ := Lib.hid hQ
  rw [hQ]
  generalize ekn : Kn.length = kn at *
  have Hkn := Lib.hid ekn
  clear ekn
  generalize evn : Vn.length = vn at *
  have Hvn := Lib.hid evn
  clear evn
  generalize ecnl : Cn.length = cnl at *
  have Hcnl := Lib.hid ecnl
  clear ecnl
  generalize eka : Ka.length = ka at *
  have Hka := Lib.hid eka
  clear eka
  generalize eval : Va.length = val at *
  have Hval := Lib.hid eval
  clear eval
  generalize ecal : Ca.length = cal at *
  have Hcal := Lib.hid ecal
  clear ecal
  generalize ekb : Kb.length = kb at *
  have Hkb := Lib.hid ekb
  clear ekb
  generalize evb : Vb.length = vb at *
  have Hvb := Lib.hid evb
  clear evb
  generalize ecbl : Cb.length = cbl at *
  have Hcbl := Lib.hid ecbl
  clear ecbl
  have hfl' : (i : Int) < cnl := by omega
  have htl' : (i : Int) + 1 < cnl := by omega
  have htl2 : i + 1 < cnl := by omega
  have hf0 : (0 : Int) ≤ i := by omega
  have hfn' : (i : Int) < kn := by omega
  have hw1 : IntKind.i64.wrap ((i : Int) + 1) = (i : Int) + 1 := IntWalk.i64_in _ (by omega)
  have hw2 : IntKind.i64.wrap ((i : Int) + 2) = (i : Int) + 2 := IntWalk.i64_in _ (by omega)
  have hi1p : (0 : Int) ≤ (i : Int) + 1 := by omega
  have hnn1 : ((i : Int) + 1).toNat = i + 1 := by omega
  obtain ⟨dn0, dn1, dn2, fn0, fn1, fn2⟩ := T0.n.cells
  obtain ⟨da0, da1, da2, fa0, fa1, fa2⟩ := T0.a.cells
  obtain ⟨db0, db1, db2, fb0, fb1, fb2⟩ := T0.b.cells
  have TT := Lib.hid T0
  have HB := Lib.hid T0.b
  have HONE := Lib.hid T0.one
  have HZL := Lib.hid hzl
  have HTL := Lib.hid htl2
  clear hn ha hb hone hf ht hQ fn0 fn1 fn2 fa0 fa1 fa2 fb0 fb1 fb2 T0 hzl htl htl2
  go_enter Try.func63, Try.ntmps63
  go_wp2_with fail
  obtain ⟨iS, siS, szS, s1S, s2S⟩ := info_parts Try.infoS
  obtain ⟨iI, siI, szI, s1I, s2I⟩ := info_parts Try.infoI
  obtain ⟨iP, siP, szP, s1P, s2P⟩ := info_parts Try.infoP
  have HSN : Hid (Kn.length ≤ 1000 ∧ Cn.length ≤ 1000) := Lib.hid (by have := Hkn.out; have := Hcnl.out; omega)
  have HSZ : Hid (Ka.length ≤ 1000 ∧ Kb.length ≤ 1000 ∧ Va.length ≤ 1000 ∧ Vb.length ≤ 1000 ∧ Ca.length ≤ 1000 ∧ Cb.length ≤ 1000) := Lib.hid (by have := Hka.out; have := Hkb.out; have := Hval.out; have := Hvb.out; have := Hcal.out; have := Hcbl.out; omega)
  have hlpb := TT.out.b.owns
  have hlpn := TT.out.n.owns
  have z1 : ow pa (.slice aa1 ka ca1) (.slice aa2 val ca2) (.slice aa3 cal ca3) pb = 0 := by have h1 := HONE.out pb; have h2 := hlpb.1; omega
  have z2 : ow pa (.slice aa1 ka ca1) (.slice aa2 val ca2) (.slice aa3 cal ca3) pn = 0 := by have h1 := HONE.out pn; have h2 := hlpn.1; omega
  have z3 : ow pa (.slice aa1 ka ca1) (.slice aa2 val ca2) (.slice aa3 cal ca3) gn = 0 := by have h1 := HONE.out gn; have h2 := hlpn.2.1 gn rfl; omega
  have HLF := Lib.hid (show Calls Try.prog 38 #[.pointer (some ⟨pa, 0, none⟩)] w.drew fun e w' => e = .returned (.bool true) ∧ w.drew = w' from by have := leaf_any TT.out.a.drew; rwa [hCA] at this)
  have HST := (St.start TT.out.a (fun k => by have := HONE.out k; omega)).drew.drew
  clear hCA hz hlpb hlpn
  refine wp_region_noPanic ?_
  refine wp_region_J (S := fun u : World => u.cell? ⟨pn, 2, none⟩ = some (.slice (some ⟨g3, 0, none⟩) cnl cn3) ∧ u.cell? ⟨g3, i, none⟩ = some (.pointer (some ⟨pa, 0, none⟩)) ∧ u.cell? ⟨g3, i + 1, none⟩ = some (.pointer (some ⟨pb, 0, none⟩))) (fun _ => false) (by kernel_rfl) ?_
  have hHeld : (fun u : World => u.cell? ⟨pn, 2, none⟩ = some (.slice (some ⟨g3, 0, none⟩) cnl cn3) ∧ u.cell? ⟨g3, i, none⟩ = some (.pointer (some ⟨pa, 0, none⟩)) ∧ u.cell? ⟨g3, i + 1, none⟩ = some (.pointer (some ⟨pb, 0, none⟩))) w.drew := ⟨dn2, kf, kt⟩
  refine wpAnyJ_take0 (i := 0) (v := ?_) rfl (by kernel_rfl) (by kernel_rfl) (by kernel_rfl) (fun _ _ _ h => h) (Or.inl ⟨by rfl, ?_⟩) ?_
  rotate_left
  focus ((intro w hSw; clear hSw; go_simp); try with_reducible rfl)
  (try simp only [Act.put, List.getElem_toArray, List.getElem_cons_zero, List.getElem_cons_succ, List.setIfInBounds_toArray, List.set_cons_zero, List.set_cons_succ])
  refine wpAnyJ_take0 (i := 1) (v := ?_) rfl (by kernel_rfl) (by kernel_rfl) (by kernel_rfl) (fun _ _ _ h => h) (Or.inl ⟨by rfl, ?_⟩) ?_
  rotate_left
  focus ((intro w hSw; clear hSw; go_simp); try with_reducible rfl)
  (try simp only [Act.put, List.getElem_toArray, List.getElem_cons_zero, List.getElem_cons_succ, List.setIfInBounds_toArray, List.set_cons_zero, List.set_cons_succ])
  refine wpAnyJ_take0 (i := 2) (v := ?_) rfl (by kernel_rfl) (by kernel_rfl) (by kernel_rfl) (fun _ _ _ h => h) (Or.inl ⟨by rfl, ?_⟩) ?_
  rotate_left
  focus ((intro w hSw; clear hSw; go_simp); try with_reducible rfl)
  (try simp only [Act.put, List.getElem_toArray, List.getElem_cons_zero, List.getElem_cons_succ, List.setIfInBounds_toArray, List.set_cons_zero, List.set_cons_succ])
  refine wpAnyJ_take (i := 3) (v := ?_) rfl (by kernel_rfl) (by kernel_rfl) (by kernel_rfl) (by kernel_rfl) (fun _ _ _ h => h) (Or.inl ⟨by rfl, ?_⟩) (by assumption) ?_
  rotate_left
  focus ((intro w hSw; (try dsimp only at hSw); go_simp); try with_reducible rfl)
  (try simp only [Act.put, List.getElem_toArray, List.getElem_cons_zero, List.getElem_cons_succ, List.setIfInBounds_toArray, List.set_cons_zero, List.set_cons_succ])
  refine wpAnyJ_take0 (i := 4) (v := ?_) rfl (by kernel_rfl) (by kernel_rfl) (by kernel_rfl) (fun _ _ _ h => h) (Or.inl ⟨by rfl, ?_⟩) ?_
  rotate_left
  focus ((intro w hSw; clear hSw; go_simp); try with_reducible rfl)
  (try simp only [Act.put, List.getElem_toArray, List.getElem_cons_zero, List.getElem_cons_succ, List.setIfInBounds_toArray, List.set_cons_zero, List.set_cons_succ])
  refine wpAnyJ_take0 (i := 5) (v := ?_) rfl (by kernel_rfl) (by kernel_rfl) (by kernel_rfl) (fun _ _ _ h => h) (Or.inl ⟨by rfl, ?_⟩) ?_
  rotate_left
  focus ((intro w hSw; clear hSw; go_simp); try with_reducible rfl)
  (try simp only [Act.put, List.getElem_toArray, List.getElem_cons_zero, List.getElem_cons_succ, List.setIfInBounds_toArray, List.set_cons_zero, List.set_cons_succ])
  refine wpAnyJ_take (i := 6) (v := ?_) rfl (by kernel_rfl) (by kernel_rfl) (by kernel_rfl) (by kernel_rfl) (fun _ _ _ h => h) (Or.inl ⟨by rfl, ?_⟩) (by assumption) ?_
  rotate_left
  focus ((intro w hSw; (try dsimp only at hSw); go_simp); try with_reducible rfl)
  (try simp only [Act.put, List.getElem_toArray, List.getElem_cons_zero, List.getElem_cons_succ, List.setIfInBounds_toArray, List.set_cons_zero, List.set_cons_succ])
  refine wpAnyJ_take0 (i := 7) (v := ?_) rfl (by kernel_rfl) (by kernel_rfl) (by kernel_rfl) (fun _ _ _ h => h) (Or.inl ⟨by rfl, ?_⟩) ?_
  rotate_left
  focus ((intro w hSw; clear hSw; go_simp); try with_reducible rfl)
  (try simp only [Act.put, List.getElem_toArray, List.getElem_cons_zero, List.getElem_cons_succ, List.setIfInBounds_toArray, List.set_cons_zero, List.set_cons_succ])
  refine wpAnyJ_take0 (i := 8) (v := ?_) rfl (by kernel_rfl) (by kernel_rfl) (by kernel_rfl) (fun _ _ _ h => h) (Or.inl ⟨by rfl, ?_⟩) ?_
  rotate_left
  focus ((intro w hSw; clear hSw; go_simp); try with_reducible rfl)
  (try simp only [Act.put, List.getElem_toArray, List.getElem_cons_zero, List.getElem_cons_succ, List.setIfInBounds_toArray, List.set_cons_zero, List.set_cons_succ])
  refine wpAnyJ_take0 (i := 9) (v := ?_) rfl (by kernel_rfl) (by kernel_rfl) (by kernel_rfl) (fun _ _ _ h => h) (Or.inl ⟨by rfl, ?_⟩) ?_
  rotate_left
  focus ((intro w hSw; clear hSw; go_simp); try with_reducible rfl)
  (try simp only [Act.put, List.getElem_toArray, List.getElem_cons_zero, List.getElem_cons_succ, List.setIfInBounds_toArray, List.set_cons_zero, List.set_cons_succ])
  refine wpAnyJ_take (i := 10) (v := ?_) rfl (by kernel_rfl) (by kernel_rfl) (by kernel_rfl) (by kernel_rfl) (fun _ _ _ h => h) (Or.inl ⟨by rfl, ?_⟩) (by assumption) ?_
  rotate_left
  focus ((intro w hSw; (try dsimp only at hSw); go_simp); try with_reducible rfl)
  (try simp only [Act.put, List.getElem_toArray, List.getElem_cons_zero, List.getElem_cons_succ, List.setIfInBounds_toArray, List.set_cons_zero, List.set_cons_succ])
  refine wpAnyJ_take0 (i := 11) (v := ?_) rfl (by kernel_rfl) (by kernel_rfl) (by kernel_rfl) (fun _ _ _ h => h) (Or.inl ⟨by rfl, ?_⟩) ?_
  rotate_left
  focus ((intro w hSw; clear hSw; go_simp); try with_reducible rfl)
  (try simp only [Act.put, List.getElem_toArray, List.getElem_cons_zero, List.getElem_cons_succ, List.setIfInBounds_toArray, List.set_cons_zero, List.set_cons_succ])
  refine wpAnyJ_take0 (i := 12) (v := ?_) rfl (by kernel_rfl) (by kernel_rfl) (by kernel_rfl) (fun _ _ _ h => h) (Or.inl ⟨by rfl, ?_⟩) ?_
  rotate_left
  focus ((intro w hSw; clear hSw; go_simp); try with_reducible rfl)
  (try simp only [Act.put, List.getElem_toArray, List.getElem_cons_zero, List.getElem_cons_succ, List.setIfInBounds_toArray, List.set_cons_zero, List.set_cons_succ])
  refine wpAnyJ_take0 (i := 13) (v := ?_) rfl (by kernel_rfl) (by kernel_rfl) (by kernel_rfl) (fun _ _ _ h => h) (Or.inl ⟨by rfl, ?_⟩) ?_
  rotate_left
  focus ((intro w hSw; clear hSw; go_simp); try with_reducible rfl)
  (try simp only [Act.put, List.getElem_toArray, List.getElem_cons_zero, List.getElem_cons_succ, List.setIfInBounds_toArray, List.set_cons_zero, List.set_cons_succ])
  refine wpAnyJ_take (i := 14) (v := ?_) rfl (by kernel_rfl) (by kernel_rfl) (by kernel_rfl) (by kernel_rfl) (fun _ _ _ h => h) (Or.inl ⟨by rfl, ?_⟩) (by assumption) ?_
  rotate_left
  focus ((intro w hSw; (try dsimp only at hSw); go_simp); try with_reducible rfl)
  (try simp only [Act.put, List.getElem_toArray, List.getElem_cons_zero, List.getElem_cons_succ, List.setIfInBounds_toArray, List.set_cons_zero, List.set_cons_succ])
  refine wpAnyJ_take0 (i := 15) (v := ?_) rfl (by kernel_rfl) (by kernel_rfl) (by kernel_rfl) (fun _ _ _ h => h) (Or.inl ⟨by rfl, ?_⟩) ?_
  rotate_left
  focus ((intro w hSw; clear hSw; go_simp); try with_reducible rfl)
  (try simp only [Act.put, List.getElem_toArray, List.getElem_cons_zero, List.getElem_cons_succ, List.setIfInBounds_toArray, List.set_cons_zero, List.set_cons_succ])
  refine wpAnyJ_take0 (i := 16) (v := ?_) rfl (by kernel_rfl) (by kernel_rfl) (by kernel_rfl) (fun _ _ _ h => h) (Or.inl ⟨by rfl, ?_⟩) ?_
  rotate_left
  focus ((intro w hSw; clear hSw; go_simp); try with_reducible rfl)
  (try simp only [Act.put, List.getElem_toArray, List.getElem_cons_zero, List.getElem_cons_succ, List.setIfInBounds_toArray, List.set_cons_zero, List.set_cons_succ])
  refine wpAnyJ_done (by kernel_rfl) ?_ _
  refine NoPanic.normal ?_
  go_wp2_with fail
  refine HLF.out.mono ?_
  rintro e w' ⟨rfl, rfl⟩
  clear HLF dn1 dn2 da0 da1 da2 kf kt
  go_wp2_with fail
  refine wp_region_noPanic ?_
  refine wp_region_J (S := fun u : World => u.cell? ⟨pa, 0, none⟩ = some (.slice aa1 ka ca1) ∧ u.cell? ⟨pb, 0, none⟩ = some (.slice ab1 kb cb1) ∧ u.cell? ⟨pa, 1, none⟩ = some (.slice aa2 val ca2) ∧ u.cell? ⟨pb, 1, none⟩ = some (.slice ab2 vb cb2)) (fun j => j == 22 || j == 25) (by kernel_rfl) ?_
  obtain ⟨u0, hu0⟩ : ∃ u, w.drew.drew = u := ⟨_, rfl⟩
  rw [hu0] at HST ⊢
  clear hu0
  have hHeld : (fun u : World => u.cell? ⟨pa, 0, none⟩ = some (.slice aa1 ka ca1) ∧ u.cell? ⟨pb, 0, none⟩ = some (.slice ab1 kb cb1) ∧ u.cell? ⟨pa, 1, none⟩ = some (.slice aa2 val ca2) ∧ u.cell? ⟨pb, 1, none⟩ = some (.slice ab2 vb cb2)) u0 := ⟨HST.cell.1, HST.other db0 z1, HST.cell.2.1, HST.other db1 z1⟩
  refine wpAnyJ_take0 (i := 0) (v := ?_) rfl (by kernel_rfl) (by kernel_rfl) (by kernel_rfl) (fun _ _ _ h => h) (Or.inl ⟨by rfl, ?_⟩) ?_
  rotate_left
  focus ((intro w hSw; clear hSw; go_simp); try with_reducible rfl)
  (try simp only [Act.put, List.getElem_toArray, List.getElem_cons_zero, List.getElem_cons_succ, List.setIfInBounds_toArray, List.set_cons_zero, List.set_cons_succ])
  refine wpAnyJ_take0 (i := 1) (v := ?_) rfl (by kernel_rfl) (by kernel_rfl) (by kernel_rfl) (fun _ _ _ h => h) (Or.inl ⟨by rfl, ?_⟩) ?_
  rotate_left
  focus ((intro w hSw; clear hSw; go_simp); try with_reducible rfl)
  (try simp only [Act.put, List.getElem_toArray, List.getElem_cons_zero, List.getElem_cons_succ, List.setIfInBounds_toArray, List.set_cons_zero, List.set_cons_succ])
  refine wpAnyJ_take0 (i := 2) (v := ?_) rfl (by kernel_rfl) (by kernel_rfl) (by kernel_rfl) (fun _ _ _ h => h) (Or.inl ⟨by rfl, ?_⟩) ?_
  rotate_left
  focus ((intro w hSw; clear hSw; go_simp); try with_reducible rfl)
  (try simp only [Act.put, List.getElem_toArray, List.getElem_cons_zero, List.getElem_cons_succ, List.setIfInBounds_toArray, List.set_cons_zero, List.set_cons_succ])
  refine wpAnyJ_take0 (i := 3) (v := ?_) rfl (by kernel_rfl) (by kernel_rfl) (by kernel_rfl) (fun _ _ _ h => h) (Or.inl ⟨by rfl, ?_⟩) ?_
  rotate_left
  focus ((intro w hSw; clear hSw; go_simp); try with_reducible rfl)
  (try simp only [Act.put, List.getElem_toArray, List.getElem_cons_zero, List.getElem_cons_succ, List.setIfInBounds_toArray, List.set_cons_zero, List.set_cons_succ])
  refine wpAnyJ_take0 (i := 4) (v := ?_) rfl (by kernel_rfl) (by kernel_rfl) (by kernel_rfl) (fun _ _ _ h => h) (Or.inl ⟨by rfl, ?_⟩) ?_
  rotate_left
  focus ((intro w hSw; clear hSw; go_simp); try with_reducible rfl)
  (try simp only [Act.put, List.getElem_toArray, List.getElem_cons_zero, List.getElem_cons_succ, List.setIfInBounds_toArray, List.set_cons_zero, List.set_cons_succ])
  refine wpAnyJ_take (i := 5) (v := ?_) rfl (by kernel_rfl) (by kernel_rfl) (by kernel_rfl) (by kernel_rfl) (fun _ _ _ h => h) (Or.inl ⟨by rfl, ?_⟩) (by assumption) ?_
  rotate_left
  focus ((intro w hSw; (try dsimp only at hSw); go_simp); try with_reducible rfl)
  (try simp only [Act.put, List.getElem_toArray, List.getElem_cons_zero, List.getElem_cons_succ, List.setIfInBounds_toArray, List.set_cons_zero, List.set_cons_succ])
  refine wpAnyJ_take0 (i := 6) (v := ?_) rfl (by kernel_rfl) (by kernel_rfl) (by kernel_rfl) (fun _ _ _ h => h) (Or.inl ⟨by rfl, ?_⟩) ?_
  rotate_left
  focus ((intro w hSw; clear hSw; go_simp); try with_reducible rfl)
  (try simp only [Act.put, List.getElem_toArray, List.getElem_cons_zero, List.getElem_cons_succ, List.setIfInBounds_toArray, List.set_cons_zero, List.set_cons_succ])
  refine wpAnyJ_take0 (i := 7) (v := ?_) rfl (by kernel_rfl) (by kernel_rfl) (by kernel_rfl) (fun _ _ _ h => h) (Or.inl ⟨by rfl, ?_⟩) ?_
  rotate_left
  focus ((intro w hSw; clear hSw; go_simp); try with_reducible rfl)
  (try simp only [Act.put, List.getElem_toArray, List.getElem_cons_zero, List.getElem_cons_succ, List.setIfInBounds_toArray, List.set_cons_zero, List.set_cons_succ])
  refine wpAnyJ_take0 (i := 8) (v := ?_) rfl (by kernel_rfl) (by kernel_rfl) (by kernel_rfl) (fun _ _ _ h => h) (Or.inl ⟨by rfl, ?_⟩) ?_
  rotate_left
  focus ((intro w hSw; clear hSw; go_simp); try with_reducible rfl)
  (try simp only [Act.put, List.getElem_toArray, List.getElem_cons_zero, List.getElem_cons_succ, List.setIfInBounds_toArray, List.set_cons_zero, List.set_cons_succ])
  refine wpAnyJ_take (i := 9) (v := ?_) rfl (by kernel_rfl) (by kernel_rfl) (by kernel_rfl) (by kernel_rfl) (fun _ _ _ h => h) (Or.inl ⟨by rfl, ?_⟩) (by assumption) ?_
  rotate_left
  focus ((intro w hSw; (try dsimp only at hSw); go_simp); try with_reducible rfl)
  (try simp only [Act.put, List.getElem_toArray, List.getElem_cons_zero, List.getElem_cons_succ, List.setIfInBounds_toArray, List.set_cons_zero, List.set_cons_succ])
  refine wpAnyJ_take0 (i := 11) (v := ?_) rfl (by kernel_rfl) (by kernel_rfl) (by kernel_rfl) (fun _ _ _ h => h) (Or.inl ⟨by rfl, ?_⟩) ?_
  rotate_left
  focus ((intro w hSw; clear hSw; go_simp); try with_reducible rfl)
  (try simp only [Act.put, List.getElem_toArray, List.getElem_cons_zero, List.getElem_cons_succ, List.setIfInBounds_toArray, List.set_cons_zero, List.set_cons_succ])
  refine wpAnyJ_take0 (i := 12) (v := ?_) rfl (by kernel_rfl) (by kernel_rfl) (by kernel_rfl) (fun _ _ _ h => h) (Or.inl ⟨by rfl, ?_⟩) ?_
  rotate_left
  focus ((intro w hSw; clear hSw; go_simp); try with_reducible rfl)
  (try simp only [Act.put, List.getElem_toArray, List.getElem_cons_zero, List.getElem_cons_succ, List.setIfInBounds_toArray, List.set_cons_zero, List.set_cons_succ])
  refine wpAnyJ_take0 (i := 13) (v := ?_) rfl (by kernel_rfl) (by kernel_rfl) (by kernel_rfl) (fun _ _ _ h => h) (Or.inl ⟨by rfl, ?_⟩) ?_
  rotate_left
  focus ((intro w hSw; clear hSw; go_simp); try with_reducible rfl)
  (try simp only [Act.put, List.getElem_toArray, List.getElem_cons_zero, List.getElem_cons_succ, List.setIfInBounds_toArray, List.set_cons_zero, List.set_cons_succ])
  refine wpAnyJ_take (i := 14) (v := ?_) rfl (by kernel_rfl) (by kernel_rfl) (by kernel_rfl) (by kernel_rfl) (fun _ _ _ h => h) (Or.inl ⟨by rfl, ?_⟩) (by assumption) ?_
  rotate_left
  focus ((intro w hSw; (try dsimp only at hSw); go_simp); try with_reducible rfl)
  (try simp only [Act.put, List.getElem_toArray, List.getElem_cons_zero, List.getElem_cons_succ, List.setIfInBounds_toArray, List.set_cons_zero, List.set_cons_succ])
  refine wpAnyJ_take0 (i := 15) (v := ?_) rfl (by kernel_rfl) (by kernel_rfl) (by kernel_rfl) (fun _ _ _ h => h) (Or.inl ⟨by rfl, ?_⟩) ?_
  rotate_left
  focus ((intro w hSw; clear hSw; go_simp); try with_reducible rfl)
  (try simp only [Act.put, List.getElem_toArray, List.getElem_cons_zero, List.getElem_cons_succ, List.setIfInBounds_toArray, List.set_cons_zero, List.set_cons_succ])
  refine wpAnyJ_take0 (i := 16) (v := ?_) rfl (by kernel_rfl) (by kernel_rfl) (by kernel_rfl) (fun _ _ _ h => h) (Or.inl ⟨by rfl, ?_⟩) ?_
  rotate_left
  focus ((intro w hSw; clear hSw; go_simp); try with_reducible rfl)
  (try simp only [Act.put, List.getElem_toArray, List.getElem_cons_zero, List.getElem_cons_succ, List.setIfInBounds_toArray, List.set_cons_zero, List.set_cons_succ])
  refine wpAnyJ_take0 (i := 17) (v := ?_) rfl (by kernel_rfl) (by kernel_rfl) (by kernel_rfl) (fun _ _ _ h => h) (Or.inl ⟨by rfl, ?_⟩) ?_
  rotate_left
  focus ((intro w hSw; clear hSw; go_simp); try with_reducible rfl)
  (try simp only [Act.put, List.getElem_toArray, List.getElem_cons_zero, List.getElem_cons_succ, List.setIfInBounds_toArray, List.set_cons_zero, List.set_cons_succ])
  refine wpAnyJ_take (i := 18) (v := ?_) rfl (by kernel_rfl) (by kernel_rfl) (by kernel_rfl) (by kernel_rfl) (fun _ _ _ h => h) (Or.inl ⟨by rfl, ?_⟩) (by assumption) ?_
  rotate_left
  focus ((intro w hSw; (try dsimp only at hSw); go_simp); try with_reducible rfl)
  (try simp only [Act.put, List.getElem_toArray, List.getElem_cons_zero, List.getElem_cons_succ, List.setIfInBounds_toArray, List.set_cons_zero, List.set_cons_succ])
  refine wpAnyJ_ready (rs := [10]) (by kernel_rfl) (by simp) ?_
  refine AllReadyJ.cons rfl (fun KK hKK => ?_) AllReadyJ.nil
  refine step_append_arr (by rfl) _ _ 27 (by rfl) Try.underlying27 siS szS s1S s2S rfl (by decide) _ _ _ ((Ka).map Value.string) (by rfl) HST.r1 (str_one _) ab1 (kb) cb1 _ ((Kb).map Value.string) (by rfl) (by rw [List.length_map]; exact Hkb.out.symm) (str_one _) nb1 ((HST.beside HB.out (fun k => by have := HONE.out k; omega)).r1.cells.2) (by have h1 := HSZ.out; simp; omega) ?_
  intro x1 c1 u1 h1 h2 h3
  have HST2 := HST.row1 h2 h3 (by rw [← List.map_append] at h1; exact h1)
  clear h1 h2 h3 HST
  have HST := HST2
  clear HST2
  have hH2 : (fun u : World => u.cell? ⟨pa, 0, none⟩ = some (.slice aa1 ka ca1) ∧ u.cell? ⟨pb, 0, none⟩ = some (.slice ab1 kb cb1) ∧ u.cell? ⟨pa, 1, none⟩ = some (.slice aa2 val ca2) ∧ u.cell? ⟨pb, 1, none⟩ = some (.slice ab2 vb cb2)) u1 := ⟨HST.cell.1, HST.other db0 z1, HST.cell.2.1, HST.other db1 z1⟩
  refine hKK.out _ _ (fun _ _ => hH2) ?_
  clear hKK KK
  clear hHeld
  have hHeld := hH2
  clear hH2 u0
  revert u1
  intro u0 HST hHeld
  (try simp only [Act.put, List.getElem_toArray, List.getElem_cons_zero, List.getElem_cons_succ, List.setIfInBounds_toArray, List.set_cons_zero, List.set_cons_succ])
  refine wpAnyJ_ready (rs := [19]) (by kernel_rfl) (by simp) ?_
  refine AllReadyJ.cons rfl (fun KK hKK => ?_) AllReadyJ.nil
  refine step_append_arr (by rfl) _ _ 28 (by rfl) Try.underlying28 siI szI s1I s2I rfl (by decide) _ _ _ ((Va).map numV) (by rfl) HST.r2 (num_one _) ab2 (vb) cb2 _ ((Vb).map numV) (by rfl) (by rw [List.length_map]; exact Hvb.out.symm) (num_one _) nb2 ((HST.beside HB.out (fun k => by have := HONE.out k; omega)).r2.cells.2) (by have h1 := HSZ.out; simp; omega) ?_
  intro x2 c2 u1 h1 h2 h3
  have HST2 := HST.row2 h2 h3 (by rw [← List.map_append] at h1; exact h1)
  clear h1 h2 h3 HST
  have HST := HST2
  clear HST2
  have hH2 : (fun u : World => u.cell? ⟨pa, 0, none⟩ = some (.slice aa1 ka ca1) ∧ u.cell? ⟨pb, 0, none⟩ = some (.slice ab1 kb cb1) ∧ u.cell? ⟨pa, 1, none⟩ = some (.slice aa2 val ca2) ∧ u.cell? ⟨pb, 1, none⟩ = some (.slice ab2 vb cb2)) u1 := ⟨HST.cell.1, HST.other db0 z1, HST.cell.2.1, HST.other db1 z1⟩
  refine hKK.out _ _ (fun _ _ => hH2) ?_
  clear hKK KK
  clear hHeld
  have hHeld := hH2
  clear hH2 u0
  revert u1
  intro u0 HST hHeld
  (try simp only [Act.put, List.getElem_toArray, List.getElem_cons_zero, List.getElem_cons_succ, List.setIfInBounds_toArray, List.set_cons_zero, List.set_cons_succ])
  refine wpAnyJ_take0 (i := 20) (v := ?_) rfl (by kernel_rfl) (by kernel_rfl) (by kernel_rfl) (fun _ _ _ h => h) (Or.inl ⟨by rfl, ?_⟩) ?_
  rotate_left
  focus ((intro w hSw; clear hSw; go_simp); try with_reducible rfl)
  (try simp only [Act.put, List.getElem_toArray, List.getElem_cons_zero, List.getElem_cons_succ, List.setIfInBounds_toArray, List.set_cons_zero, List.set_cons_succ])
  refine wpAnyJ_take0 (i := 21) (v := ?_) rfl (by kernel_rfl) (by kernel_rfl) (by kernel_rfl) (fun _ _ _ h => h) (Or.inl ⟨by rfl, ?_⟩) ?_
  rotate_left
  focus ((intro w hSw; clear hSw; go_simp); try with_reducible rfl)
  (try simp only [Act.put, List.getElem_toArray, List.getElem_cons_zero, List.getElem_cons_succ, List.setIfInBounds_toArray, List.set_cons_zero, List.set_cons_succ])
  refine wpAnyJ_ready (rs := [22]) (by kernel_rfl) (by simp) ?_
  refine AllReadyJ.cons rfl (fun KK hKK => ?_) AllReadyJ.nil
  have hz1 := HST.cell.2.2.2 0
  have hz2 := HST.cell.1
  go_simp
  clear hz1 hz2
  replace HST := HST.put0 (.slice x1 (ka + kb) c1)
  refine hKK.out _ _ (fun h => absurd h (by decide)) ?_
  clear hKK KK
  generalize u0.setCell ⟨pa, 0, none⟩ (.slice x1 (ka + kb) c1) = u1 at HST ⊢
  (try clear hHeld)
  clear u0
  revert u1
  intro u0 HST
  (try simp only [Act.put, List.getElem_toArray, List.getElem_cons_zero, List.getElem_cons_succ, List.setIfInBounds_toArray, List.set_cons_zero, List.set_cons_succ])
  refine wpAnyJ_take0 (i := 23) (v := ?_) rfl (by kernel_rfl) (by kernel_rfl) (by kernel_rfl) (fun _ _ _ h => h) (Or.inl ⟨by rfl, ?_⟩) ?_
  rotate_left
  focus ((intro w hSw; clear hSw; go_simp); try with_reducible rfl)
  (try simp only [Act.put, List.getElem_toArray, List.getElem_cons_zero, List.getElem_cons_succ, List.setIfInBounds_toArray, List.set_cons_zero, List.set_cons_succ])
  refine wpAnyJ_take0 (i := 24) (v := ?_) rfl (by kernel_rfl) (by kernel_rfl) (by kernel_rfl) (fun _ _ _ h => h) (Or.inl ⟨by rfl, ?_⟩) ?_
  rotate_left
  focus ((intro w hSw; clear hSw; go_simp); try with_reducible rfl)
  (try simp only [Act.put, List.getElem_toArray, List.getElem_cons_zero, List.getElem_cons_succ, List.setIfInBounds_toArray, List.set_cons_zero, List.set_cons_succ])
  refine wpAnyJ_ready (rs := [25]) (by kernel_rfl) (by simp) ?_
  refine AllReadyJ.cons rfl (fun KK hKK => ?_) AllReadyJ.nil
  have hz1 := HST.cell.2.2.2 1
  have hz2 := HST.cell.2.1
  go_simp
  clear hz1 hz2
  replace HST := HST.put1 (.slice x2 (val + vb) c2)
  refine hKK.out _ _ (fun h => absurd h (by decide)) ?_
  clear hKK KK
  generalize u0.setCell ⟨pa, 1, none⟩ (.slice x2 (val + vb) c2) = u1 at HST ⊢
  (try clear hHeld)
  clear u0
  revert u1
  intro u0 HST
  (try simp only [Act.put, List.getElem_toArray, List.getElem_cons_zero, List.getElem_cons_succ, List.setIfInBounds_toArray, List.set_cons_zero, List.set_cons_succ])
  refine wpAnyJ_done (by kernel_rfl) ?_ _
  refine NoPanic.normal ?_
  have T1 := TT.out.upd_a HST.end HST.fr
  clear HST
  generalize hu1 : u0 = u2 at T1 ⊢
  clear hu1
  have HST := (St.start T1.n (fun k => by have := T1.one k; omega)).drew
  have T1 := Lib.hid T1
  go_wp2_with fail
  refine wp_region_noPanic ?_
  refine wp_region_J (S := fun u : World => u.cell? ⟨pn, 0, none⟩ = some (.slice (some ⟨gn, 0, none⟩) kn cn1) ∧ u.cell? ⟨pn, 2, none⟩ = some (.slice (some ⟨g3, 0, none⟩) cnl cn3)) (fun j => j == 21 || j == 24) (by kernel_rfl) ?_
  obtain ⟨u0, hu0⟩ : ∃ u, u2.drew = u := ⟨_, rfl⟩
  rw [hu0] at HST ⊢
  clear hu0
  have hHeld : (fun u : World => u.cell? ⟨pn, 0, none⟩ = some (.slice (some ⟨gn, 0, none⟩) kn cn1) ∧ u.cell? ⟨pn, 2, none⟩ = some (.slice (some ⟨g3, 0, none⟩) cnl cn3)) u0 := ⟨HST.cell.1, HST.cell.2.2.1⟩
  refine wpAnyJ_take0 (i := 0) (v := ?_) rfl (by kernel_rfl) (by kernel_rfl) (by kernel_rfl) (fun _ _ _ h => h) (Or.inl ⟨by rfl, ?_⟩) ?_
  rotate_left
  focus ((intro w hSw; clear hSw; go_simp); try with_reducible rfl)
  (try simp only [Act.put, List.getElem_toArray, List.getElem_cons_zero, List.getElem_cons_succ, List.setIfInBounds_toArray, List.set_cons_zero, List.set_cons_succ])
  refine wpAnyJ_take0 (i := 1) (v := ?_) rfl (by kernel_rfl) (by kernel_rfl) (by kernel_rfl) (fun _ _ _ h => h) (Or.inl ⟨by rfl, ?_⟩) ?_
  rotate_left
  focus ((intro w hSw; clear hSw; go_simp); try with_reducible rfl)
  (try simp only [Act.put, List.getElem_toArray, List.getElem_cons_zero, List.getElem_cons_succ, List.setIfInBounds_toArray, List.set_cons_zero, List.set_cons_succ])
  refine wpAnyJ_take0 (i := 2) (v := ?_) rfl (by kernel_rfl) (by kernel_rfl) (by kernel_rfl) (fun _ _ _ h => h) (Or.inl ⟨by rfl, ?_⟩) ?_
  rotate_left
  focus ((intro w hSw; clear hSw; go_simp); try with_reducible rfl)
  (try simp only [Act.put, List.getElem_toArray, List.getElem_cons_zero, List.getElem_cons_succ, List.setIfInBounds_toArray, List.set_cons_zero, List.set_cons_succ])
  refine wpAnyJ_take0 (i := 3) (v := ?_) rfl (by kernel_rfl) (by kernel_rfl) (by kernel_rfl) (fun _ _ _ h => h) (Or.inl ⟨by rfl, ?_⟩) ?_
  rotate_left
  focus ((intro w hSw; clear hSw; go_simp); try with_reducible rfl)
  (try simp only [Act.put, List.getElem_toArray, List.getElem_cons_zero, List.getElem_cons_succ, List.setIfInBounds_toArray, List.set_cons_zero, List.set_cons_succ])
  refine wpAnyJ_take0 (i := 4) (v := ?_) rfl (by kernel_rfl) (by kernel_rfl) (by kernel_rfl) (fun _ _ _ h => h) (Or.inl ⟨by rfl, ?_⟩) ?_
  rotate_left
  focus ((intro w hSw; clear hSw; go_simp); try with_reducible rfl)
  (try simp only [Act.put, List.getElem_toArray, List.getElem_cons_zero, List.getElem_cons_succ, List.setIfInBounds_toArray, List.set_cons_zero, List.set_cons_succ])
  refine wpAnyJ_take (i := 5) (v := ?_) rfl (by kernel_rfl) (by kernel_rfl) (by kernel_rfl) (by kernel_rfl) (fun _ _ _ h => h) (Or.inl ⟨by rfl, ?_⟩) (by assumption) ?_
  rotate_left
  focus ((intro w hSw; (try dsimp only at hSw); go_simp); try with_reducible rfl)
  (try simp only [Act.put, List.getElem_toArray, List.getElem_cons_zero, List.getElem_cons_succ, List.setIfInBounds_toArray, List.set_cons_zero, List.set_cons_succ])
  refine wpAnyJ_take0 (i := 6) (v := ?_) rfl (by kernel_rfl) (by kernel_rfl) (by kernel_rfl) (fun _ _ _ h => h) (Or.inl ⟨by rfl, ?_⟩) ?_
  rotate_left
  focus ((intro w hSw; clear hSw; go_simp); try with_reducible rfl)
  (try simp only [Act.put, List.getElem_toArray, List.getElem_cons_zero, List.getElem_cons_succ, List.setIfInBounds_toArray, List.set_cons_zero, List.set_cons_succ])
  refine wpAnyJ_take0 (i := 7) (v := ?_) rfl (by kernel_rfl) (by kernel_rfl) (by kernel_rfl) (fun _ _ _ h => h) (Or.inl ⟨by rfl, ?_⟩) ?_
  rotate_left
  focus ((intro w hSw; clear hSw; go_simp); try with_reducible rfl)
  (try simp only [Act.put, List.getElem_toArray, List.getElem_cons_zero, List.getElem_cons_succ, List.setIfInBounds_toArray, List.set_cons_zero, List.set_cons_succ])
  refine wpAnyJ_take0 (i := 8) (v := ?_) rfl (by kernel_rfl) (by kernel_rfl) (by kernel_rfl) (fun _ _ _ h => h) (Or.inl ⟨by rfl, ?_⟩) ?_
  rotate_left
  focus ((intro w hSw; clear hSw; go_simp); try with_reducible rfl)
  (try simp only [Act.put, List.getElem_toArray, List.getElem_cons_zero, List.getElem_cons_succ, List.setIfInBounds_toArray, List.set_cons_zero, List.set_cons_succ])
  refine wpAnyJ_take0 (i := 10) (v := ?_) rfl (by kernel_rfl) (by kernel_rfl) (by kernel_rfl) (fun _ _ _ h => h) (Or.inl ⟨by rfl, ?_⟩) ?_
  rotate_left
  focus ((intro w hSw; clear hSw; go_simp); try with_reducible rfl)
  (try simp only [Act.put, List.getElem_toArray, List.getElem_cons_zero, List.getElem_cons_succ, List.setIfInBounds_toArray, List.set_cons_zero, List.set_cons_succ])
  refine wpAnyJ_take0 (i := 11) (v := ?_) rfl (by kernel_rfl) (by kernel_rfl) (by kernel_rfl) (fun _ _ _ h => h) (Or.inl ⟨by rfl, ?_⟩) ?_
  rotate_left
  focus ((intro w hSw; clear hSw; go_simp); try with_reducible rfl)
  (try simp only [Act.put, List.getElem_toArray, List.getElem_cons_zero, List.getElem_cons_succ, List.setIfInBounds_toArray, List.set_cons_zero, List.set_cons_succ])
  refine wpAnyJ_take0 (i := 12) (v := ?_) rfl (by kernel_rfl) (by kernel_rfl) (by kernel_rfl) (fun _ _ _ h => h) (Or.inl ⟨by rfl, ?_⟩) ?_
  rotate_left
  focus ((intro w hSw; clear hSw; go_simp); try with_reducible rfl)
  (try simp only [Act.put, List.getElem_toArray, List.getElem_cons_zero, List.getElem_cons_succ, List.setIfInBounds_toArray, List.set_cons_zero, List.set_cons_succ])
  refine wpAnyJ_take (i := 13) (v := ?_) rfl (by kernel_rfl) (by kernel_rfl) (by kernel_rfl) (by kernel_rfl) (fun _ _ _ h => h) (Or.inl ⟨by rfl, ?_⟩) (by assumption) ?_
  rotate_left
  focus ((intro w hSw; (try dsimp only at hSw); go_simp); try with_reducible rfl)
  (try simp only [Act.put, List.getElem_toArray, List.getElem_cons_zero, List.getElem_cons_succ, List.setIfInBounds_toArray, List.set_cons_zero, List.set_cons_succ])
  refine wpAnyJ_take0 (i := 14) (v := ?_) rfl (by kernel_rfl) (by kernel_rfl) (by kernel_rfl) (fun _ _ _ h => h) (Or.inl ⟨by rfl, ?_⟩) ?_
  rotate_left
  focus ((intro w hSw; clear hSw; go_simp); try with_reducible rfl)
  (try simp only [Act.put, List.getElem_toArray, List.getElem_cons_zero, List.getElem_cons_succ, List.setIfInBounds_toArray, List.set_cons_zero, List.set_cons_succ])
  refine wpAnyJ_take0 (i := 15) (v := ?_) rfl (by kernel_rfl) (by kernel_rfl) (by kernel_rfl) (fun _ _ _ h => h) (Or.inl ⟨by rfl, ?_⟩) ?_
  rotate_left
  focus ((intro w hSw; clear hSw; go_simp); try with_reducible rfl)
  (try simp only [Act.put, List.getElem_toArray, List.getElem_cons_zero, List.getElem_cons_succ, List.setIfInBounds_toArray, List.set_cons_zero, List.set_cons_succ])
  refine wpAnyJ_take0 (i := 16) (v := ?_) rfl (by kernel_rfl) (by kernel_rfl) (by kernel_rfl) (fun _ _ _ h => h) (Or.inl ⟨by rfl, ?_⟩) ?_
  rotate_left
  focus ((intro w hSw; clear hSw; go_simp); try with_reducible rfl)
  (try simp only [Act.put, List.getElem_toArray, List.getElem_cons_zero, List.getElem_cons_succ, List.setIfInBounds_toArray, List.set_cons_zero, List.set_cons_succ])
  refine wpAnyJ_take0 (i := 17) (v := ?_) rfl (by kernel_rfl) (by kernel_rfl) (by kernel_rfl) (fun _ _ _ h => h) (Or.inl ⟨by rfl, ?_⟩) ?_
  rotate_left
  focus ((intro w hSw; clear hSw; go_simp); try with_reducible rfl)
  (try simp only [Act.put, List.getElem_toArray, List.getElem_cons_zero, List.getElem_cons_succ, List.setIfInBounds_toArray, List.set_cons_zero, List.set_cons_succ])
  refine wpAnyJ_ready (rs := [9]) (by kernel_rfl) (by simp) ?_
  refine AllReadyJ.cons rfl (fun KK hKK => ?_) AllReadyJ.nil
  go_simp
  go_at_call 52
  refine (HST.del1 (i := i) (by rw [Hkn.out]; exact HZL.out) (by have := HSN.out; omega) ((i : Int) + 1) rfl i rfl).mono ?_
  rintro e u1 ⟨rfl, HST2⟩
  clear HST
  have HST := HST2
  clear HST2
  have hH2 : (fun u : World => u.cell? ⟨pn, 0, none⟩ = some (.slice (some ⟨gn, 0, none⟩) kn cn1) ∧ u.cell? ⟨pn, 2, none⟩ = some (.slice (some ⟨g3, 0, none⟩) cnl cn3)) u1 := ⟨HST.cell.1, HST.cell.2.2.1⟩
  refine hKK.out _ _ (fun _ _ => hH2) ?_
  clear hKK KK
  clear hHeld
  have hHeld := hH2
  clear hH2 u0
  revert u1
  intro u0 HST hHeld
  (try simp only [Act.put, List.getElem_toArray, List.getElem_cons_zero, List.getElem_cons_succ, List.setIfInBounds_toArray, List.set_cons_zero, List.set_cons_succ])
  refine wpAnyJ_ready (rs := [18]) (by kernel_rfl) (by simp) ?_
  refine AllReadyJ.cons rfl (fun KK hKK => ?_) AllReadyJ.nil
  go_simp
  go_at_call 67
  refine (HST.del3 (i := i + 1) (by rw [Hcnl.out]; exact HTL.out) (by have := HSN.out; omega) ((i : Int) + 2) (by omega) ((i : Int) + 1) (by omega)).mono ?_
  rintro e u1 ⟨rfl, HST2⟩
  clear HST
  have HST := HST2
  clear HST2
  have hH2 : (fun u : World => u.cell? ⟨pn, 0, none⟩ = some (.slice (some ⟨gn, 0, none⟩) kn cn1) ∧ u.cell? ⟨pn, 2, none⟩ = some (.slice (some ⟨g3, 0, none⟩) cnl cn3)) u1 := ⟨HST.cell.1, HST.cell.2.2.1⟩
  refine hKK.out _ _ (fun _ _ => hH2) ?_
  clear hKK KK
  clear hHeld
  have hHeld := hH2
  clear hH2 u0
  revert u1
  intro u0 HST hHeld
  (try simp only [Act.put, List.getElem_toArray, List.getElem_cons_zero, List.getElem_cons_succ, List.setIfInBounds_toArray, List.set_cons_zero, List.set_cons_succ])
  refine wpAnyJ_take0 (i := 19) (v := ?_) rfl (by kernel_rfl) (by kernel_rfl) (by kernel_rfl) (fun _ _ _ h => h) (Or.inl ⟨by rfl, ?_⟩) ?_
  rotate_left
  focus ((intro w hSw; clear hSw; go_simp); try with_reducible rfl)
  (try simp only [Act.put, List.getElem_toArray, List.getElem_cons_zero, List.getElem_cons_succ, List.setIfInBounds_toArray, List.set_cons_zero, List.set_cons_succ])
  refine wpAnyJ_take0 (i := 20) (v := ?_) rfl (by kernel_rfl) (by kernel_rfl) (by kernel_rfl) (fun _ _ _ h => h) (Or.inl ⟨by rfl, ?_⟩) ?_
  rotate_left
  focus ((intro w hSw; clear hSw; go_simp); try with_reducible rfl)
  (try simp only [Act.put, List.getElem_toArray, List.getElem_cons_zero, List.getElem_cons_succ, List.setIfInBounds_toArray, List.set_cons_zero, List.set_cons_succ])
  refine wpAnyJ_ready (rs := [21]) (by kernel_rfl) (by simp) ?_
  refine AllReadyJ.cons rfl (fun KK hKK => ?_) AllReadyJ.nil
  have hz1 := HST.cell.2.2.2 0
  have hz2 := HST.cell.1
  go_simp
  clear hz1 hz2
  replace HST := HST.put0 (.slice (some ⟨gn, 0, none⟩) (kn - 1) cn1)
  refine hKK.out _ _ (fun h => absurd h (by decide)) ?_
  clear hKK KK
  generalize u0.setCell ⟨pn, 0, none⟩ (.slice (some ⟨gn, 0, none⟩) (kn - 1) cn1) = u1 at HST ⊢
  (try clear hHeld)
  clear u0
  revert u1
  intro u0 HST
  (try simp only [Act.put, List.getElem_toArray, List.getElem_cons_zero, List.getElem_cons_succ, List.setIfInBounds_toArray, List.set_cons_zero, List.set_cons_succ])
  refine wpAnyJ_take0 (i := 22) (v := ?_) rfl (by kernel_rfl) (by kernel_rfl) (by kernel_rfl) (fun _ _ _ h => h) (Or.inl ⟨by rfl, ?_⟩) ?_
  rotate_left
  focus ((intro w hSw; clear hSw; go_simp); try with_reducible rfl)
  (try simp only [Act.put, List.getElem_toArray, List.getElem_cons_zero, List.getElem_cons_succ, List.setIfInBounds_toArray, List.set_cons_zero, List.set_cons_succ])
  refine wpAnyJ_take0 (i := 23) (v := ?_) rfl (by kernel_rfl) (by kernel_rfl) (by kernel_rfl) (fun _ _ _ h => h) (Or.inl ⟨by rfl, ?_⟩) ?_
  rotate_left
  focus ((intro w hSw; clear hSw; go_simp); try with_reducible rfl)
  (try simp only [Act.put, List.getElem_toArray, List.getElem_cons_zero, List.getElem_cons_succ, List.setIfInBounds_toArray, List.set_cons_zero, List.set_cons_succ])
  refine wpAnyJ_ready (rs := [24]) (by kernel_rfl) (by simp) ?_
  refine AllReadyJ.cons rfl (fun KK hKK => ?_) AllReadyJ.nil
  have hz1 := HST.cell.2.2.2 2
  have hz2 := HST.cell.2.2.1
  go_simp
  clear hz1 hz2
  replace HST := HST.put2 (.slice (some ⟨g3, 0, none⟩) (cnl - 1) cn3)
  refine hKK.out _ _ (fun h => absurd h (by decide)) ?_
  clear hKK KK
  generalize u0.setCell ⟨pn, 2, none⟩ (.slice (some ⟨g3, 0, none⟩) (cnl - 1) cn3) = u1 at HST ⊢
  (try clear hHeld)
  clear u0
  revert u1
  intro u0 HST
  (try simp only [Act.put, List.getElem_toArray, List.getElem_cons_zero, List.getElem_cons_succ, List.setIfInBounds_toArray, List.set_cons_zero, List.set_cons_succ])
  refine wpAnyJ_done (by kernel_rfl) ?_ _
  refine NoPanic.normal ?_
  have T4 := Lib.hid (T1.out.upd_n HST.end HST.fr)
  clear HST T1
  go_wp2_with fail
  rw [← HQ.out]
  refine ⟨rfl, _, results_none rfl _ _ _, rfl, ?_⟩
  have hka := Hka.out
  have hkb := Hkb.out
  have hkn := Hkn.out
  have hvn := Hvn.out
  have hcnl := Hcnl.out
  have hval := Hval.out
  have hcal := Hcal.out
  have hvb := Hvb.out
  have hcbl := Hcbl.out
  subst hka hkb hkn hvn hcnl hval hcal hvb hcbl
  exact ⟨_, _, _, _, _, _, _, _, _, T4.out⟩
end Go.Proofs.Ytjoopjmcnkiieaa

/- join: forks. Conditions: the three nodes are there, apart. -/
namespace Go.Proofs.Ytjoopjmcnkiieaa
open Go.RowKit Go.Lib
set_option linter.unusedSimpArgs false
set_option linter.unusedVariables false

set_option maxRecDepth 100000 in
set_option maxHeartbeats 32000000 in
theorem join_f {w : World} {pn pa pb i : Nat} {n1 n2 n3 a1 a2 a3 b1 b2 b3 : Value} {Kn Ka Kb : List ByteArray} {Vn Va Vb : List Int} {Cn Ca Cb : List Nat} {z : ByteArray}
    (hn : NodeAt w pn n1 n2 n3 Kn Vn Cn) (ha : NodeAt w pa a1 a2 a3 Ka Va Ca) (hb : NodeAt w pb b1 b2 b3 Kb Vb Cb) (hone : ∀ k, ow pn n1 n2 n3 k + ow pa a1 a2 a3 k + ow pb b1 b2 b3 k ≤ 1)
    (hf : Cn[i]? = some pa) (ht : Cn[i + 1]? = some pb) (hsz : Kn.length ≤ 1000 ∧ Cn.length ≤ 1000 ∧ Ka.length ≤ 1000 ∧ Kb.length ≤ 1000 ∧ Cb.length ≤ 1000 ∧ Vb.length ≤ 1000 ∧ Ca.length ≤ 1000 ∧ Va.length ≤ 1000) (hz : Kn[i]? = some z) (hCA : 0 < Ca.length) :
    Calls Try.prog 63 #[.pointer (some ⟨pn, 0, none⟩), .int .i64 i] w (Lend3 pn pa pb n1 n2 n3 a1 a2 a3 b1 b2 b3 (Kn.eraseIdx i) Vn (Cn.eraseIdx (i + 1)) (Ka ++ [z] ++ Kb) Va (Ca ++ Cb) Kb Vb Cb w) := by
  obtain ⟨an1, cn1, an2, cn2, an3, cn3, rfl, rfl, rfl, ln1, ln2, ln3, mn1, mn2, mn3⟩ := hn.forms
  obtain ⟨aa1, ca1, aa2, ca2, aa3, ca3, rfl, rfl, rfl, la1, la2, la3, ma1, ma2, ma3⟩ := ha.forms
  obtain ⟨ab1, cb1, ab2, cb2, ab3, cb3, rfl, rfl, rfl, lb1, lb2, lb3, mb1, mb2, mb3⟩ := hb.forms
  have nb1 := hb.r1.none0
  have nb2 := hb.r2.none0
  have nb3 := hb.r3.none0
  have T0 := Tri.start hn ha hb hone
  obtain ⟨g3, rfl, kf, _⟩ := hn.kid hf
  obtain ⟨g3', e3, kt, _⟩ := hn.kid ht
  injection e3 with e3
  injection e3 with e3 _
  subst e3
  have hfl := (List.getElem?_eq_some_iff.1 hf).1
  have htl := (List.getElem?_eq_some_iff.1 ht).1
  have hzl := (List.getElem?_eq_some_iff.1 hz).1
  obtain ⟨gn, rfl, kz, _⟩ := hn.key hz
  obtain ⟨Q, hQ⟩ : ∃ Q, Lend3 pn pa pb (.slice (some ⟨gn, 0, none⟩) Kn.length cn1) (.slice an2 Vn.length cn2) (.slice (some ⟨g3, 0, none⟩) Cn.length cn3) (.slice aa1 Ka.length ca1) (.slice aa2 Va.length ca2) (.slice aa3 Ca.length ca3) (.slice ab1 Kb.length cb1) (.slice ab2 Vb.length cb2) (.slice ab3 Cb.length cb3) (Kn.eraseIdx i) Vn (Cn.eraseIdx (i + 1)) (Ka ++ [z] ++ Kb) Va (Ca ++ Cb) Kb Vb Cb w = Q := ⟨_, rfl⟩
  have HQ := Lib.hid hQ
  rw [hQ]
  generalize ekn : Kn.length = kn at *
  have Hkn := Lib.hid ekn
  clear ekn
  generalize evn : Vn.length = vn at *
  have Hvn := Lib.hid evn
  clear evn
  generalize ecnl : Cn.length = cnl at *
  have Hcnl := Lib.hid ecnl
  clear ecnl
  generalize eka : Ka.length = ka at *
  have Hka := Lib.hid eka
  clear eka
  generalize eval : Va.length = val at *
  have Hval := Lib.hid eval
  clear eval
  generalize ecal : Ca.length = cal at *
  have Hcal := Lib.hid ecal
  clear ecal
  generalize ekb : Kb.length = kb at *
  have Hkb := Lib.hid ekb
  clear ekb
  generalize evb : Vb.length = vb at *
  have Hvb := Lib.hid evb
  clear evb
  generalize ecbl : Cb.length = cbl at *
  have Hcbl := Lib.hid ecbl
  clear ecbl
  have hfl' : (i : Int) < cnl := by omega
  have htl' : (i : Int) + 1 < cnl := by omega
  have htl2 : i + 1 < cnl := by omega
  have hf0 : (0 : Int) ≤ i := by omega
  have hfn' : (i : Int) < kn := by omega
  have hw1 : IntKind.i64.wrap ((i : Int) + 1) = (i : Int) + 1 := IntWalk.i64_in _ (by omega)
  have hw2 : IntKind.i64.wrap ((i : Int) + 2) = (i : Int) + 2 := IntWalk.i64_in _ (by omega)
  have hi1p : (0 : Int) ≤ (i : Int) + 1 := by omega
  have hnn1 : ((i : Int) + 1).toNat = i + 1 := by omega
  obtain ⟨dn0, dn1, dn2, fn0, fn1, fn2⟩ := T0.n.cells
  obtain ⟨da0, da1, da2, fa0, fa1, fa2⟩ := T0.a.cells
  obtain ⟨db0, db1, db2, fb0, fb1, fb2⟩ := T0.b.cells
  have TT := Lib.hid T0
  have HB := Lib.hid T0.b
  have HONE := Lib.hid T0.one
  have HZL := Lib.hid hzl
  have HTL := Lib.hid htl2
  clear hn ha hb hone hf ht hQ fn0 fn1 fn2 fa0 fa1 fa2 fb0 fb1 fb2 T0 hzl htl htl2
  go_enter Try.func63, Try.ntmps63
  go_wp2_with fail
  obtain ⟨iS, siS, szS, s1S, s2S⟩ := info_parts Try.infoS
  obtain ⟨iI, siI, szI, s1I, s2I⟩ := info_parts Try.infoI
  obtain ⟨iP, siP, szP, s1P, s2P⟩ := info_parts Try.infoP
  have HSN : Hid (Kn.length ≤ 1000 ∧ Cn.length ≤ 1000) := Lib.hid (by have := Hkn.out; have := Hcnl.out; omega)
  have HSZ : Hid (Ka.length ≤ 1000 ∧ Kb.length ≤ 1000 ∧ Va.length ≤ 1000 ∧ Vb.length ≤ 1000 ∧ Ca.length ≤ 1000 ∧ Cb.length ≤ 1000) := Lib.hid (by have := Hka.out; have := Hkb.out; have := Hval.out; have := Hvb.out; have := Hcal.out; have := Hcbl.out; omega)
  have hlpb := TT.out.b.owns
  have hlpn := TT.out.n.owns
  have z1 : ow pa (.slice aa1 ka ca1) (.slice aa2 val ca2) (.slice aa3 cal ca3) pb = 0 := by have h1 := HONE.out pb; have h2 := hlpb.1; omega
  have z2 : ow pa (.slice aa1 ka ca1) (.slice aa2 val ca2) (.slice aa3 cal ca3) pn = 0 := by have h1 := HONE.out pn; have h2 := hlpn.1; omega
  have z3 : ow pa (.slice aa1 ka ca1) (.slice aa2 val ca2) (.slice aa3 cal ca3) gn = 0 := by have h1 := HONE.out gn; have h2 := hlpn.2.1 gn rfl; omega
  have HLF := Lib.hid (show Calls Try.prog 38 #[.pointer (some ⟨pa, 0, none⟩)] w.drew fun e w' => e = .returned (.bool false) ∧ w.drew = w' from by have := leaf_any TT.out.a.drew; rwa [show Ca.isEmpty = false from by cases Ca with | nil => exact absurd (Hcal.out ▸ hCA) (by simp) | cons _ _ => rfl] at this)
  have HST := (St.start TT.out.a (fun k => by have := HONE.out k; omega)).drew.drew
  clear hCA hz hlpb hlpn
  refine wp_region_noPanic ?_
  refine wp_region_J (S := fun u : World => u.cell? ⟨pn, 2, none⟩ = some (.slice (some ⟨g3, 0, none⟩) cnl cn3) ∧ u.cell? ⟨g3, i, none⟩ = some (.pointer (some ⟨pa, 0, none⟩)) ∧ u.cell? ⟨g3, i + 1, none⟩ = some (.pointer (some ⟨pb, 0, none⟩))) (fun _ => false) (by kernel_rfl) ?_
  have hHeld : (fun u : World => u.cell? ⟨pn, 2, none⟩ = some (.slice (some ⟨g3, 0, none⟩) cnl cn3) ∧ u.cell? ⟨g3, i, none⟩ = some (.pointer (some ⟨pa, 0, none⟩)) ∧ u.cell? ⟨g3, i + 1, none⟩ = some (.pointer (some ⟨pb, 0, none⟩))) w.drew := ⟨dn2, kf, kt⟩
  refine wpAnyJ_take0 (i := 0) (v := ?_) rfl (by kernel_rfl) (by kernel_rfl) (by kernel_rfl) (fun _ _ _ h => h) (Or.inl ⟨by rfl, ?_⟩) ?_
  rotate_left
  focus ((intro w hSw; clear hSw; go_simp); try with_reducible rfl)
  (try simp only [Act.put, List.getElem_toArray, List.getElem_cons_zero, List.getElem_cons_succ, List.setIfInBounds_toArray, List.set_cons_zero, List.set_cons_succ])
  refine wpAnyJ_take0 (i := 1) (v := ?_) rfl (by kernel_rfl) (by kernel_rfl) (by kernel_rfl) (fun _ _ _ h => h) (Or.inl ⟨by rfl, ?_⟩) ?_
  rotate_left
  focus ((intro w hSw; clear hSw; go_simp); try with_reducible rfl)
  (try simp only [Act.put, List.getElem_toArray, List.getElem_cons_zero, List.getElem_cons_succ, List.setIfInBounds_toArray, List.set_cons_zero, List.set_cons_succ])
  refine wpAnyJ_take0 (i := 2) (v := ?_) rfl (by kernel_rfl) (by kernel_rfl) (by kernel_rfl) (fun _ _ _ h => h) (Or.inl ⟨by rfl, ?_⟩) ?_
  rotate_left
  focus ((intro w hSw; clear hSw; go_simp); try with_reducible rfl)
  (try simp only [Act.put, List.getElem_toArray, List.getElem_cons_zero, List.getElem_cons_succ, List.setIfInBounds_toArray, List.set_cons_zero, List.set_cons_succ])
  refine wpAnyJ_take (i := 3) (v := ?_) rfl (by kernel_rfl) (by kernel_rfl) (by kernel_rfl) (by kernel_rfl) (fun _ _ _ h => h) (Or.inl ⟨by rfl, ?_⟩) (by assumption) ?_
  rotate_left
  focus ((intro w hSw; (try dsimp only at hSw); go_simp); try with_reducible rfl)
  (try simp only [Act.put, List.getElem_toArray, List.getElem_cons_zero, List.getElem_cons_succ, List.setIfInBounds_toArray, List.set_cons_zero, List.set_cons_succ])
  refine wpAnyJ_take0 (i := 4) (v := ?_) rfl (by kernel_rfl) (by kernel_rfl) (by kernel_rfl) (fun _ _ _ h => h) (Or.inl ⟨by rfl, ?_⟩) ?_
  rotate_left
  focus ((intro w hSw; clear hSw; go_simp); try with_reducible rfl)
  (try simp only [Act.put, List.getElem_toArray, List.getElem_cons_zero, List.getElem_cons_succ, List.setIfInBounds_toArray, List.set_cons_zero, List.set_cons_succ])
  refine wpAnyJ_take0 (i := 5) (v := ?_) rfl (by kernel_rfl) (by kernel_rfl) (by kernel_rfl) (fun _ _ _ h => h) (Or.inl ⟨by rfl, ?_⟩) ?_
  rotate_left
  focus ((intro w hSw; clear hSw; go_simp); try with_reducible rfl)
  (try simp only [Act.put, List.getElem_toArray, List.getElem_cons_zero, List.getElem_cons_succ, List.setIfInBounds_toArray, List.set_cons_zero, List.set_cons_succ])
  refine wpAnyJ_take (i := 6) (v := ?_) rfl (by kernel_rfl) (by kernel_rfl) (by kernel_rfl) (by kernel_rfl) (fun _ _ _ h => h) (Or.inl ⟨by rfl, ?_⟩) (by assumption) ?_
  rotate_left
  focus ((intro w hSw; (try dsimp only at hSw); go_simp); try with_reducible rfl)
  (try simp only [Act.put, List.getElem_toArray, List.getElem_cons_zero, List.getElem_cons_succ, List.setIfInBounds_toArray, List.set_cons_zero, List.set_cons_succ])
  refine wpAnyJ_take0 (i := 7) (v := ?_) rfl (by kernel_rfl) (by kernel_rfl) (by kernel_rfl) (fun _ _ _ h => h) (Or.inl ⟨by rfl, ?_⟩) ?_
  rotate_left
  focus ((intro w hSw; clear hSw; go_simp); try with_reducible rfl)
  (try simp only [Act.put, List.getElem_toArray, List.getElem_cons_zero, List.getElem_cons_succ, List.setIfInBounds_toArray, List.set_cons_zero, List.set_cons_succ])
  refine wpAnyJ_take0 (i := 8) (v := ?_) rfl (by kernel_rfl) (by kernel_rfl) (by kernel_rfl) (fun _ _ _ h => h) (Or.inl ⟨by rfl, ?_⟩) ?_
  rotate_left
  focus ((intro w hSw; clear hSw; go_simp); try with_reducible rfl)
  (try simp only [Act.put, List.getElem_toArray, List.getElem_cons_zero, List.getElem_cons_succ, List.setIfInBounds_toArray, List.set_cons_zero, List.set_cons_succ])
  refine wpAnyJ_take0 (i := 9) (v := ?_) rfl (by kernel_rfl) (by kernel_rfl) (by kernel_rfl) (fun _ _ _ h => h) (Or.inl ⟨by rfl, ?_⟩) ?_
  rotate_left
  focus ((intro w hSw; clear hSw; go_simp); try with_reducible rfl)
  (try simp only [Act.put, List.getElem_toArray, List.getElem_cons_zero, List.getElem_cons_succ, List.setIfInBounds_toArray, List.set_cons_zero, List.set_cons_succ])
  refine wpAnyJ_take (i := 10) (v := ?_) rfl (by kernel_rfl) (by kernel_rfl) (by kernel_rfl) (by kernel_rfl) (fun _ _ _ h => h) (Or.inl ⟨by rfl, ?_⟩) (by assumption) ?_
  rotate_left
  focus ((intro w hSw; (try dsimp only at hSw); go_simp); try with_reducible rfl)
  (try simp only [Act.put, List.getElem_toArray, List.getElem_cons_zero, List.getElem_cons_succ, List.setIfInBounds_toArray, List.set_cons_zero, List.set_cons_succ])
  refine wpAnyJ_take0 (i := 11) (v := ?_) rfl (by kernel_rfl) (by kernel_rfl) (by kernel_rfl) (fun _ _ _ h => h) (Or.inl ⟨by rfl, ?_⟩) ?_
  rotate_left
  focus ((intro w hSw; clear hSw; go_simp); try with_reducible rfl)
  (try simp only [Act.put, List.getElem_toArray, List.getElem_cons_zero, List.getElem_cons_succ, List.setIfInBounds_toArray, List.set_cons_zero, List.set_cons_succ])
  refine wpAnyJ_take0 (i := 12) (v := ?_) rfl (by kernel_rfl) (by kernel_rfl) (by kernel_rfl) (fun _ _ _ h => h) (Or.inl ⟨by rfl, ?_⟩) ?_
  rotate_left
  focus ((intro w hSw; clear hSw; go_simp); try with_reducible rfl)
  (try simp only [Act.put, List.getElem_toArray, List.getElem_cons_zero, List.getElem_cons_succ, List.setIfInBounds_toArray, List.set_cons_zero, List.set_cons_succ])
  refine wpAnyJ_take0 (i := 13) (v := ?_) rfl (by kernel_rfl) (by kernel_rfl) (by kernel_rfl) (fun _ _ _ h => h) (Or.inl ⟨by rfl, ?_⟩) ?_
  rotate_left
  focus ((intro w hSw; clear hSw; go_simp); try with_reducible rfl)
  (try simp only [Act.put, List.getElem_toArray, List.getElem_cons_zero, List.getElem_cons_succ, List.setIfInBounds_toArray, List.set_cons_zero, List.set_cons_succ])
  refine wpAnyJ_take (i := 14) (v := ?_) rfl (by kernel_rfl) (by kernel_rfl) (by kernel_rfl) (by kernel_rfl) (fun _ _ _ h => h) (Or.inl ⟨by rfl, ?_⟩) (by assumption) ?_
  rotate_left
  focus ((intro w hSw; (try dsimp only at hSw); go_simp); try with_reducible rfl)
  (try simp only [Act.put, List.getElem_toArray, List.getElem_cons_zero, List.getElem_cons_succ, List.setIfInBounds_toArray, List.set_cons_zero, List.set_cons_succ])
  refine wpAnyJ_take0 (i := 15) (v := ?_) rfl (by kernel_rfl) (by kernel_rfl) (by kernel_rfl) (fun _ _ _ h => h) (Or.inl ⟨by rfl, ?_⟩) ?_
  rotate_left
  focus ((intro w hSw; clear hSw; go_simp); try with_reducible rfl)
  (try simp only [Act.put, List.getElem_toArray, List.getElem_cons_zero, List.getElem_cons_succ, List.setIfInBounds_toArray, List.set_cons_zero, List.set_cons_succ])
  refine wpAnyJ_take0 (i := 16) (v := ?_) rfl (by kernel_rfl) (by kernel_rfl) (by kernel_rfl) (fun _ _ _ h => h) (Or.inl ⟨by rfl, ?_⟩) ?_
  rotate_left
  focus ((intro w hSw; clear hSw; go_simp); try with_reducible rfl)
  (try simp only [Act.put, List.getElem_toArray, List.getElem_cons_zero, List.getElem_cons_succ, List.setIfInBounds_toArray, List.set_cons_zero, List.set_cons_succ])
  refine wpAnyJ_done (by kernel_rfl) ?_ _
  refine NoPanic.normal ?_
  go_wp2_with fail
  refine HLF.out.mono ?_
  rintro e w' ⟨rfl, rfl⟩
  clear HLF dn1 dn2 da0 da1 da2 kf kt
  go_wp2_with fail
  refine wp_region_noPanic ?_
  refine wp_region_J (S := fun u : World => u.cell? ⟨pa, 0, none⟩ = some (.slice aa1 ka ca1) ∧ u.cell? ⟨pb, 0, none⟩ = some (.slice ab1 kb cb1) ∧ u.cell? ⟨pn, 0, none⟩ = some (.slice (some ⟨gn, 0, none⟩) kn cn1) ∧ u.cell? ⟨gn, i, none⟩ = some (.string z) ∧ u.cell? ⟨pa, 2, none⟩ = some (.slice aa3 cal ca3) ∧ u.cell? ⟨pb, 2, none⟩ = some (.slice ab3 cbl cb3)) (fun j => j == 31 || j == 34) (by kernel_rfl) ?_
  obtain ⟨u0, hu0⟩ : ∃ u, w.drew.drew = u := ⟨_, rfl⟩
  rw [hu0] at HST ⊢
  clear hu0
  have hHeld : (fun u : World => u.cell? ⟨pa, 0, none⟩ = some (.slice aa1 ka ca1) ∧ u.cell? ⟨pb, 0, none⟩ = some (.slice ab1 kb cb1) ∧ u.cell? ⟨pn, 0, none⟩ = some (.slice (some ⟨gn, 0, none⟩) kn cn1) ∧ u.cell? ⟨gn, i, none⟩ = some (.string z) ∧ u.cell? ⟨pa, 2, none⟩ = some (.slice aa3 cal ca3) ∧ u.cell? ⟨pb, 2, none⟩ = some (.slice ab3 cbl cb3)) u0 := ⟨HST.cell.1, HST.other db0 z1, HST.other dn0 z2, HST.other kz z3, HST.cell.2.2.1, HST.other db2 z1⟩
  refine wpAnyJ_take0 (i := 0) (v := ?_) rfl (by kernel_rfl) (by kernel_rfl) (by kernel_rfl) (fun _ _ _ h => h) (Or.inl ⟨by rfl, ?_⟩) ?_
  rotate_left
  focus ((intro w hSw; clear hSw; go_simp); try with_reducible rfl)
  (try simp only [Act.put, List.getElem_toArray, List.getElem_cons_zero, List.getElem_cons_succ, List.setIfInBounds_toArray, List.set_cons_zero, List.set_cons_succ])
  refine wpAnyJ_take0 (i := 1) (v := ?_) rfl (by kernel_rfl) (by kernel_rfl) (by kernel_rfl) (fun _ _ _ h => h) (Or.inl ⟨by rfl, ?_⟩) ?_
  rotate_left
  focus ((intro w hSw; clear hSw; go_simp); try with_reducible rfl)
  (try simp only [Act.put, List.getElem_toArray, List.getElem_cons_zero, List.getElem_cons_succ, List.setIfInBounds_toArray, List.set_cons_zero, List.set_cons_succ])
  refine wpAnyJ_take0 (i := 2) (v := ?_) rfl (by kernel_rfl) (by kernel_rfl) (by kernel_rfl) (fun _ _ _ h => h) (Or.inl ⟨by rfl, ?_⟩) ?_
  rotate_left
  focus ((intro w hSw; clear hSw; go_simp); try with_reducible rfl)
  (try simp only [Act.put, List.getElem_toArray, List.getElem_cons_zero, List.getElem_cons_succ, List.setIfInBounds_toArray, List.set_cons_zero, List.set_cons_succ])
  refine wpAnyJ_take0 (i := 3) (v := ?_) rfl (by kernel_rfl) (by kernel_rfl) (by kernel_rfl) (fun _ _ _ h => h) (Or.inl ⟨by rfl, ?_⟩) ?_
  rotate_left
  focus ((intro w hSw; clear hSw; go_simp); try with_reducible rfl)
  (try simp only [Act.put, List.getElem_toArray, List.getElem_cons_zero, List.getElem_cons_succ, List.setIfInBounds_toArray, List.set_cons_zero, List.set_cons_succ])
  refine wpAnyJ_take0 (i := 4) (v := ?_) rfl (by kernel_rfl) (by kernel_rfl) (by kernel_rfl) (fun _ _ _ h => h) (Or.inl ⟨by rfl, ?_⟩) ?_
  rotate_left
  focus ((intro w hSw; clear hSw; go_simp); try with_reducible rfl)
  (try simp only [Act.put, List.getElem_toArray, List.getElem_cons_zero, List.getElem_cons_succ, List.setIfInBounds_toArray, List.set_cons_zero, List.set_cons_succ])
  refine wpAnyJ_take (i := 5) (v := ?_) rfl (by kernel_rfl) (by kernel_rfl) (by kernel_rfl) (by kernel_rfl) (fun _ _ _ h => h) (Or.inl ⟨by rfl, ?_⟩) (by assumption) ?_
  rotate_left
  focus ((intro w hSw; (try dsimp only at hSw); go_simp); try with_reducible rfl)
  (try simp only [Act.put, List.getElem_toArray, List.getElem_cons_zero, List.getElem_cons_succ, List.setIfInBounds_toArray, List.set_cons_zero, List.set_cons_succ])
  refine wpAnyJ_take0 (i := 6) (v := ?_) rfl (by kernel_rfl) (by kernel_rfl) (by kernel_rfl) (fun _ _ _ h => h) (Or.inl ⟨by rfl, ?_⟩) ?_
  rotate_left
  focus ((intro w hSw; clear hSw; go_simp); try with_reducible rfl)
  (try simp only [Act.put, List.getElem_toArray, List.getElem_cons_zero, List.getElem_cons_succ, List.setIfInBounds_toArray, List.set_cons_zero, List.set_cons_succ])
  refine wpAnyJ_take0 (i := 7) (v := ?_) rfl (by kernel_rfl) (by kernel_rfl) (by kernel_rfl) (fun _ _ _ h => h) (Or.inl ⟨by rfl, ?_⟩) ?_
  rotate_left
  focus ((intro w hSw; clear hSw; go_simp); try with_reducible rfl)
  (try simp only [Act.put, List.getElem_toArray, List.getElem_cons_zero, List.getElem_cons_succ, List.setIfInBounds_toArray, List.set_cons_zero, List.set_cons_succ])
  refine wpAnyJ_take0 (i := 8) (v := ?_) rfl (by kernel_rfl) (by kernel_rfl) (by kernel_rfl) (fun _ _ _ h => h) (Or.inl ⟨by rfl, ?_⟩) ?_
  rotate_left
  focus ((intro w hSw; clear hSw; go_simp); try with_reducible rfl)
  (try simp only [Act.put, List.getElem_toArray, List.getElem_cons_zero, List.getElem_cons_succ, List.setIfInBounds_toArray, List.set_cons_zero, List.set_cons_succ])
  refine wpAnyJ_take (i := 9) (v := ?_) rfl (by kernel_rfl) (by kernel_rfl) (by kernel_rfl) (by kernel_rfl) (fun _ _ _ h => h) (Or.inl ⟨by rfl, ?_⟩) (by assumption) ?_
  rotate_left
  focus ((intro w hSw; (try dsimp only at hSw); go_simp); try with_reducible rfl)
  (try simp only [Act.put, List.getElem_toArray, List.getElem_cons_zero, List.getElem_cons_succ, List.setIfInBounds_toArray, List.set_cons_zero, List.set_cons_succ])
  refine wpAnyJ_take0 (i := 10) (v := ?_) rfl (by kernel_rfl) (by kernel_rfl) (by kernel_rfl) (fun _ _ _ h => h) (Or.inl ⟨by rfl, ?_⟩) ?_
  rotate_left
  focus ((intro w hSw; clear hSw; go_simp); try with_reducible rfl)
  (try simp only [Act.put, List.getElem_toArray, List.getElem_cons_zero, List.getElem_cons_succ, List.setIfInBounds_toArray, List.set_cons_zero, List.set_cons_succ])
  refine wpAnyJ_take0 (i := 11) (v := ?_) rfl (by kernel_rfl) (by kernel_rfl) (by kernel_rfl) (fun _ _ _ h => h) (Or.inl ⟨by rfl, ?_⟩) ?_
  rotate_left
  focus ((intro w hSw; clear hSw; go_simp); try with_reducible rfl)
  (try simp only [Act.put, List.getElem_toArray, List.getElem_cons_zero, List.getElem_cons_succ, List.setIfInBounds_toArray, List.set_cons_zero, List.set_cons_succ])
  refine wpAnyJ_take (i := 12) (v := ?_) rfl (by kernel_rfl) (by kernel_rfl) (by kernel_rfl) (by kernel_rfl) (fun _ _ _ h => h) (Or.inl ⟨by rfl, ?_⟩) (by assumption) ?_
  rotate_left
  focus ((intro w hSw; (try dsimp only at hSw); go_simp); try with_reducible rfl)
  (try simp only [Act.put, List.getElem_toArray, List.getElem_cons_zero, List.getElem_cons_succ, List.setIfInBounds_toArray, List.set_cons_zero, List.set_cons_succ])
  refine wpAnyJ_take0 (i := 15) (v := ?_) rfl (by kernel_rfl) (by kernel_rfl) (by kernel_rfl) (fun _ _ _ h => h) (Or.inl ⟨by rfl, ?_⟩) ?_
  rotate_left
  focus ((intro w hSw; clear hSw; go_simp); try with_reducible rfl)
  (try simp only [Act.put, List.getElem_toArray, List.getElem_cons_zero, List.getElem_cons_succ, List.setIfInBounds_toArray, List.set_cons_zero, List.set_cons_succ])
  refine wpAnyJ_take0 (i := 16) (v := ?_) rfl (by kernel_rfl) (by kernel_rfl) (by kernel_rfl) (fun _ _ _ h => h) (Or.inl ⟨by rfl, ?_⟩) ?_
  rotate_left
  focus ((intro w hSw; clear hSw; go_simp); try with_reducible rfl)
  (try simp only [Act.put, List.getElem_toArray, List.getElem_cons_zero, List.getElem_cons_succ, List.setIfInBounds_toArray, List.set_cons_zero, List.set_cons_succ])
  refine wpAnyJ_take0 (i := 17) (v := ?_) rfl (by kernel_rfl) (by kernel_rfl) (by kernel_rfl) (fun _ _ _ h => h) (Or.inl ⟨by rfl, ?_⟩) ?_
  rotate_left
  focus ((intro w hSw; clear hSw; go_simp); try with_reducible rfl)
  (try simp only [Act.put, List.getElem_toArray, List.getElem_cons_zero, List.getElem_cons_succ, List.setIfInBounds_toArray, List.set_cons_zero, List.set_cons_succ])
  refine wpAnyJ_take (i := 18) (v := ?_) rfl (by kernel_rfl) (by kernel_rfl) (by kernel_rfl) (by kernel_rfl) (fun _ _ _ h => h) (Or.inl ⟨by rfl, ?_⟩) (by assumption) ?_
  rotate_left
  focus ((intro w hSw; (try dsimp only at hSw); go_simp); try with_reducible rfl)
  (try simp only [Act.put, List.getElem_toArray, List.getElem_cons_zero, List.getElem_cons_succ, List.setIfInBounds_toArray, List.set_cons_zero, List.set_cons_succ])
  refine wpAnyJ_take0 (i := 20) (v := ?_) rfl (by kernel_rfl) (by kernel_rfl) (by kernel_rfl) (fun _ _ _ h => h) (Or.inl ⟨by rfl, ?_⟩) ?_
  rotate_left
  focus ((intro w hSw; clear hSw; go_simp); try with_reducible rfl)
  (try simp only [Act.put, List.getElem_toArray, List.getElem_cons_zero, List.getElem_cons_succ, List.setIfInBounds_toArray, List.set_cons_zero, List.set_cons_succ])
  refine wpAnyJ_take0 (i := 21) (v := ?_) rfl (by kernel_rfl) (by kernel_rfl) (by kernel_rfl) (fun _ _ _ h => h) (Or.inl ⟨by rfl, ?_⟩) ?_
  rotate_left
  focus ((intro w hSw; clear hSw; go_simp); try with_reducible rfl)
  (try simp only [Act.put, List.getElem_toArray, List.getElem_cons_zero, List.getElem_cons_succ, List.setIfInBounds_toArray, List.set_cons_zero, List.set_cons_succ])
  refine wpAnyJ_take0 (i := 22) (v := ?_) rfl (by kernel_rfl) (by kernel_rfl) (by kernel_rfl) (fun _ _ _ h => h) (Or.inl ⟨by rfl, ?_⟩) ?_
  rotate_left
  focus ((intro w hSw; clear hSw; go_simp); try with_reducible rfl)
  (try simp only [Act.put, List.getElem_toArray, List.getElem_cons_zero, List.getElem_cons_succ, List.setIfInBounds_toArray, List.set_cons_zero, List.set_cons_succ])
  refine wpAnyJ_take (i := 23) (v := ?_) rfl (by kernel_rfl) (by kernel_rfl) (by kernel_rfl) (by kernel_rfl) (fun _ _ _ h => h) (Or.inl ⟨by rfl, ?_⟩) (by assumption) ?_
  rotate_left
  focus ((intro w hSw; (try dsimp only at hSw); go_simp); try with_reducible rfl)
  (try simp only [Act.put, List.getElem_toArray, List.getElem_cons_zero, List.getElem_cons_succ, List.setIfInBounds_toArray, List.set_cons_zero, List.set_cons_succ])
  refine wpAnyJ_take0 (i := 24) (v := ?_) rfl (by kernel_rfl) (by kernel_rfl) (by kernel_rfl) (fun _ _ _ h => h) (Or.inl ⟨by rfl, ?_⟩) ?_
  rotate_left
  focus ((intro w hSw; clear hSw; go_simp); try with_reducible rfl)
  (try simp only [Act.put, List.getElem_toArray, List.getElem_cons_zero, List.getElem_cons_succ, List.setIfInBounds_toArray, List.set_cons_zero, List.set_cons_succ])
  refine wpAnyJ_take0 (i := 25) (v := ?_) rfl (by kernel_rfl) (by kernel_rfl) (by kernel_rfl) (fun _ _ _ h => h) (Or.inl ⟨by rfl, ?_⟩) ?_
  rotate_left
  focus ((intro w hSw; clear hSw; go_simp); try with_reducible rfl)
  (try simp only [Act.put, List.getElem_toArray, List.getElem_cons_zero, List.getElem_cons_succ, List.setIfInBounds_toArray, List.set_cons_zero, List.set_cons_succ])
  refine wpAnyJ_take0 (i := 26) (v := ?_) rfl (by kernel_rfl) (by kernel_rfl) (by kernel_rfl) (fun _ _ _ h => h) (Or.inl ⟨by rfl, ?_⟩) ?_
  rotate_left
  focus ((intro w hSw; clear hSw; go_simp); try with_reducible rfl)
  (try simp only [Act.put, List.getElem_toArray, List.getElem_cons_zero, List.getElem_cons_succ, List.setIfInBounds_toArray, List.set_cons_zero, List.set_cons_succ])
  refine wpAnyJ_take (i := 27) (v := ?_) rfl (by kernel_rfl) (by kernel_rfl) (by kernel_rfl) (by kernel_rfl) (fun _ _ _ h => h) (Or.inl ⟨by rfl, ?_⟩) (by assumption) ?_
  rotate_left
  focus ((intro w hSw; (try dsimp only at hSw); go_simp); try with_reducible rfl)
  (try simp only [Act.put, List.getElem_toArray, List.getElem_cons_zero, List.getElem_cons_succ, List.setIfInBounds_toArray, List.set_cons_zero, List.set_cons_succ])
  refine wpAnyJ_ready (rs := [13]) (by kernel_rfl) (by simp) ?_
  refine AllReadyJ.cons rfl (fun KK hKK => ?_) AllReadyJ.nil
  go_simp
  replace HST := HST.alloc (.string z) 9
  have hH2 : (fun u : World => u.cell? ⟨pa, 0, none⟩ = some (.slice aa1 ka ca1) ∧ u.cell? ⟨pb, 0, none⟩ = some (.slice ab1 kb cb1) ∧ u.cell? ⟨pn, 0, none⟩ = some (.slice (some ⟨gn, 0, none⟩) kn cn1) ∧ u.cell? ⟨gn, i, none⟩ = some (.string z) ∧ u.cell? ⟨pa, 2, none⟩ = some (.slice aa3 cal ca3) ∧ u.cell? ⟨pb, 2, none⟩ = some (.slice ab3 cbl cb3)) (u0.alloc (.cells #[.string z] 9)) := ⟨HST.cell.1, HST.other db0 z1, HST.other dn0 z2, HST.other kz z3, HST.cell.2.2.1, HST.other db2 z1⟩
  refine hKK.out _ _ (fun _ _ => hH2) ?_
  clear hKK KK
  generalize u0.heap.size = vb1 at HST ⊢
  generalize u0.alloc (.cells #[.string z] 9) = u1 at HST hH2 ⊢
  clear hHeld
  have hHeld := hH2
  clear hH2
  clear u0
  revert u1
  intro u0 HST hHeld
  (try simp only [Act.put, List.getElem_toArray, List.getElem_cons_zero, List.getElem_cons_succ, List.setIfInBounds_toArray, List.set_cons_zero, List.set_cons_succ])
  refine wpAnyJ_ready (rs := [14]) (by kernel_rfl) (by simp) ?_
  refine AllReadyJ.cons rfl (fun KK hKK => ?_) AllReadyJ.nil
  refine step_append_arr (by rfl) _ _ 27 (by rfl) Try.underlying27 siS szS s1S s2S rfl (by decide) _ _ _ ((Ka).map Value.string) (by rfl) HST.r1 (str_one _) (some ⟨vb1, 0, none⟩) (1) 1 _ (([z]).map Value.string) (by rfl) (by simp) (str_one _) (fun h => by cases h) (HST.one (t := 9) (by simp)) (by have h1 := HSZ.out; simp; omega) ?_
  intro x1 c1 u1 h1 h2 h3
  have HST2 := HST.row1 h2 h3 (by rw [← List.map_append] at h1; exact h1)
  clear h1 h2 h3 HST
  have HST := HST2
  clear HST2
  have hH2 : (fun u : World => u.cell? ⟨pa, 0, none⟩ = some (.slice aa1 ka ca1) ∧ u.cell? ⟨pb, 0, none⟩ = some (.slice ab1 kb cb1) ∧ u.cell? ⟨pn, 0, none⟩ = some (.slice (some ⟨gn, 0, none⟩) kn cn1) ∧ u.cell? ⟨gn, i, none⟩ = some (.string z) ∧ u.cell? ⟨pa, 2, none⟩ = some (.slice aa3 cal ca3) ∧ u.cell? ⟨pb, 2, none⟩ = some (.slice ab3 cbl cb3)) u1 := ⟨HST.cell.1, HST.other db0 z1, HST.other dn0 z2, HST.other kz z3, HST.cell.2.2.1, HST.other db2 z1⟩
  refine hKK.out _ _ (fun _ _ => hH2) ?_
  clear hKK KK
  clear hHeld
  have hHeld := hH2
  clear hH2 u0
  revert u1
  intro u0 HST hHeld
  (try simp only [Act.put, List.getElem_toArray, List.getElem_cons_zero, List.getElem_cons_succ, List.setIfInBounds_toArray, List.set_cons_zero, List.set_cons_succ])
  refine wpAnyJ_ready (rs := [19]) (by kernel_rfl) (by simp) ?_
  refine AllReadyJ.cons rfl (fun KK hKK => ?_) AllReadyJ.nil
  refine step_append_arr (by rfl) _ _ 27 (by rfl) Try.underlying27 siS szS s1S s2S rfl (by decide) _ _ _ ((Ka ++ [z]).map Value.string) (by rfl) HST.r1 (str_one _) ab1 (kb) cb1 _ ((Kb).map Value.string) (by rfl) (by rw [List.length_map]; exact Hkb.out.symm) (str_one _) nb1 ((HST.beside HB.out (fun k => by have := HONE.out k; omega)).r1.cells.2) (by have h1 := HSZ.out; simp; omega) ?_
  intro x2 c2 u1 h1 h2 h3
  have HST2 := HST.row1 h2 h3 (by rw [← List.map_append] at h1; exact h1)
  clear h1 h2 h3 HST
  have HST := HST2
  clear HST2
  have hH2 : (fun u : World => u.cell? ⟨pa, 0, none⟩ = some (.slice aa1 ka ca1) ∧ u.cell? ⟨pb, 0, none⟩ = some (.slice ab1 kb cb1) ∧ u.cell? ⟨pn, 0, none⟩ = some (.slice (some ⟨gn, 0, none⟩) kn cn1) ∧ u.cell? ⟨gn, i, none⟩ = some (.string z) ∧ u.cell? ⟨pa, 2, none⟩ = some (.slice aa3 cal ca3) ∧ u.cell? ⟨pb, 2, none⟩ = some (.slice ab3 cbl cb3)) u1 := ⟨HST.cell.1, HST.other db0 z1, HST.other dn0 z2, HST.other kz z3, HST.cell.2.2.1, HST.other db2 z1⟩
  refine hKK.out _ _ (fun _ _ => hH2) ?_
  clear hKK KK
  clear hHeld
  have hHeld := hH2
  clear hH2 u0
  revert u1
  intro u0 HST hHeld
  (try simp only [Act.put, List.getElem_toArray, List.getElem_cons_zero, List.getElem_cons_succ, List.setIfInBounds_toArray, List.set_cons_zero, List.set_cons_succ])
  refine wpAnyJ_ready (rs := [28]) (by kernel_rfl) (by simp) ?_
  refine AllReadyJ.cons rfl (fun KK hKK => ?_) AllReadyJ.nil
  refine step_append_arr (by rfl) _ _ 67 (by rfl) Try.underlying67 siP szP s1P s2P rfl (by decide) _ _ _ ((Ca).map ptrV) (by rfl) HST.r3 (ptr_one _) ab3 (cbl) cb3 _ ((Cb).map ptrV) (by rfl) (by rw [List.length_map]; exact Hcbl.out.symm) (ptr_one _) nb3 ((HST.beside HB.out (fun k => by have := HONE.out k; omega)).r3.cells.2) (by have h1 := HSZ.out; simp; omega) ?_
  intro x3 c3 u1 h1 h2 h3
  have HST2 := HST.row3 h2 h3 (by rw [← List.map_append] at h1; exact h1)
  clear h1 h2 h3 HST
  have HST := HST2
  clear HST2
  have hH2 : (fun u : World => u.cell? ⟨pa, 0, none⟩ = some (.slice aa1 ka ca1) ∧ u.cell? ⟨pb, 0, none⟩ = some (.slice ab1 kb cb1) ∧ u.cell? ⟨pn, 0, none⟩ = some (.slice (some ⟨gn, 0, none⟩) kn cn1) ∧ u.cell? ⟨gn, i, none⟩ = some (.string z) ∧ u.cell? ⟨pa, 2, none⟩ = some (.slice aa3 cal ca3) ∧ u.cell? ⟨pb, 2, none⟩ = some (.slice ab3 cbl cb3)) u1 := ⟨HST.cell.1, HST.other db0 z1, HST.other dn0 z2, HST.other kz z3, HST.cell.2.2.1, HST.other db2 z1⟩
  refine hKK.out _ _ (fun _ _ => hH2) ?_
  clear hKK KK
  clear hHeld
  have hHeld := hH2
  clear hH2 u0
  revert u1
  intro u0 HST hHeld
  (try simp only [Act.put, List.getElem_toArray, List.getElem_cons_zero, List.getElem_cons_succ, List.setIfInBounds_toArray, List.set_cons_zero, List.set_cons_succ])
  refine wpAnyJ_take0 (i := 29) (v := ?_) rfl (by kernel_rfl) (by kernel_rfl) (by kernel_rfl) (fun _ _ _ h => h) (Or.inl ⟨by rfl, ?_⟩) ?_
  rotate_left
  focus ((intro w hSw; clear hSw; go_simp); try with_reducible rfl)
  (try simp only [Act.put, List.getElem_toArray, List.getElem_cons_zero, List.getElem_cons_succ, List.setIfInBounds_toArray, List.set_cons_zero, List.set_cons_succ])
  refine wpAnyJ_take0 (i := 30) (v := ?_) rfl (by kernel_rfl) (by kernel_rfl) (by kernel_rfl) (fun _ _ _ h => h) (Or.inl ⟨by rfl, ?_⟩) ?_
  rotate_left
  focus ((intro w hSw; clear hSw; go_simp); try with_reducible rfl)
  (try simp only [Act.put, List.getElem_toArray, List.getElem_cons_zero, List.getElem_cons_succ, List.setIfInBounds_toArray, List.set_cons_zero, List.set_cons_succ])
  refine wpAnyJ_ready (rs := [31]) (by kernel_rfl) (by simp) ?_
  refine AllReadyJ.cons rfl (fun KK hKK => ?_) AllReadyJ.nil
  have hz1 := HST.cell.2.2.2 0
  have hz2 := HST.cell.1
  go_simp
  clear hz1 hz2
  replace HST := HST.put0 (.slice x2 (ka + 1 + kb) c2)
  refine hKK.out _ _ (fun h => absurd h (by decide)) ?_
  clear hKK KK
  generalize u0.setCell ⟨pa, 0, none⟩ (.slice x2 (ka + 1 + kb) c2) = u1 at HST ⊢
  (try clear hHeld)
  clear u0
  revert u1
  intro u0 HST
  (try simp only [Act.put, List.getElem_toArray, List.getElem_cons_zero, List.getElem_cons_succ, List.setIfInBounds_toArray, List.set_cons_zero, List.set_cons_succ])
  refine wpAnyJ_take0 (i := 32) (v := ?_) rfl (by kernel_rfl) (by kernel_rfl) (by kernel_rfl) (fun _ _ _ h => h) (Or.inl ⟨by rfl, ?_⟩) ?_
  rotate_left
  focus ((intro w hSw; clear hSw; go_simp); try with_reducible rfl)
  (try simp only [Act.put, List.getElem_toArray, List.getElem_cons_zero, List.getElem_cons_succ, List.setIfInBounds_toArray, List.set_cons_zero, List.set_cons_succ])
  refine wpAnyJ_take0 (i := 33) (v := ?_) rfl (by kernel_rfl) (by kernel_rfl) (by kernel_rfl) (fun _ _ _ h => h) (Or.inl ⟨by rfl, ?_⟩) ?_
  rotate_left
  focus ((intro w hSw; clear hSw; go_simp); try with_reducible rfl)
  (try simp only [Act.put, List.getElem_toArray, List.getElem_cons_zero, List.getElem_cons_succ, List.setIfInBounds_toArray, List.set_cons_zero, List.set_cons_succ])
  refine wpAnyJ_ready (rs := [34]) (by kernel_rfl) (by simp) ?_
  refine AllReadyJ.cons rfl (fun KK hKK => ?_) AllReadyJ.nil
  have hz1 := HST.cell.2.2.2 2
  have hz2 := HST.cell.2.2.1
  go_simp
  clear hz1 hz2
  replace HST := HST.put2 (.slice x3 (cal + cbl) c3)
  refine hKK.out _ _ (fun h => absurd h (by decide)) ?_
  clear hKK KK
  generalize u0.setCell ⟨pa, 2, none⟩ (.slice x3 (cal + cbl) c3) = u1 at HST ⊢
  (try clear hHeld)
  clear u0
  revert u1
  intro u0 HST
  (try simp only [Act.put, List.getElem_toArray, List.getElem_cons_zero, List.getElem_cons_succ, List.setIfInBounds_toArray, List.set_cons_zero, List.set_cons_succ])
  refine wpAnyJ_done (by kernel_rfl) ?_ _
  refine NoPanic.normal ?_
  have T1 := TT.out.upd_a HST.end HST.fr
  clear HST
  generalize hu1 : u0 = u2 at T1 ⊢
  clear hu1
  have HST := (St.start T1.n (fun k => by have := T1.one k; omega)).drew
  have T1 := Lib.hid T1
  go_wp2_with fail
  refine wp_region_noPanic ?_
  refine wp_region_J (S := fun u : World => u.cell? ⟨pn, 0, none⟩ = some (.slice (some ⟨gn, 0, none⟩) kn cn1) ∧ u.cell? ⟨pn, 2, none⟩ = some (.slice (some ⟨g3, 0, none⟩) cnl cn3)) (fun j => j == 21 || j == 24) (by kernel_rfl) ?_
  obtain ⟨u0, hu0⟩ : ∃ u, u2.drew = u := ⟨_, rfl⟩
  rw [hu0] at HST ⊢
  clear hu0
  have hHeld : (fun u : World => u.cell? ⟨pn, 0, none⟩ = some (.slice (some ⟨gn, 0, none⟩) kn cn1) ∧ u.cell? ⟨pn, 2, none⟩ = some (.slice (some ⟨g3, 0, none⟩) cnl cn3)) u0 := ⟨HST.cell.1, HST.cell.2.2.1⟩
  refine wpAnyJ_take0 (i := 0) (v := ?_) rfl (by kernel_rfl) (by kernel_rfl) (by kernel_rfl) (fun _ _ _ h => h) (Or.inl ⟨by rfl, ?_⟩) ?_
  rotate_left
  focus ((intro w hSw; clear hSw; go_simp); try with_reducible rfl)
  (try simp only [Act.put, List.getElem_toArray, List.getElem_cons_zero, List.getElem_cons_succ, List.setIfInBounds_toArray, List.set_cons_zero, List.set_cons_succ])
  refine wpAnyJ_take0 (i := 1) (v := ?_) rfl (by kernel_rfl) (by kernel_rfl) (by kernel_rfl) (fun _ _ _ h => h) (Or.inl ⟨by rfl, ?_⟩) ?_
  rotate_left
  focus ((intro w hSw; clear hSw; go_simp); try with_reducible rfl)
  (try simp only [Act.put, List.getElem_toArray, List.getElem_cons_zero, List.getElem_cons_succ, List.setIfInBounds_toArray, List.set_cons_zero, List.set_cons_succ])
  refine wpAnyJ_take0 (i := 2) (v := ?_) rfl (by kernel_rfl) (by kernel_rfl) (by kernel_rfl) (fun _ _ _ h => h) (Or.inl ⟨by rfl, ?_⟩) ?_
  rotate_left
  focus ((intro w hSw; clear hSw; go_simp); try with_reducible rfl)
  (try simp only [Act.put, List.getElem_toArray, List.getElem_cons_zero, List.getElem_cons_succ, List.setIfInBounds_toArray, List.set_cons_zero, List.set_cons_succ])
  refine wpAnyJ_take0 (i := 3) (v := ?_) rfl (by kernel_rfl) (by kernel_rfl) (by kernel_rfl) (fun _ _ _ h => h) (Or.inl ⟨by rfl, ?_⟩) ?_
  rotate_left
  focus ((intro w hSw; clear hSw; go_simp); try with_reducible rfl)
  (try simp only [Act.put, List.getElem_toArray, List.getElem_cons_zero, List.getElem_cons_succ, List.setIfInBounds_toArray, List.set_cons_zero, List.set_cons_succ])
  refine wpAnyJ_take0 (i := 4) (v := ?_) rfl (by kernel_rfl) (by kernel_rfl) (by kernel_rfl) (fun _ _ _ h => h) (Or.inl ⟨by rfl, ?_⟩) ?_
  rotate_left
  focus ((intro w hSw; clear hSw; go_simp); try with_reducible rfl)
  (try simp only [Act.put, List.getElem_toArray, List.getElem_cons_zero, List.getElem_cons_succ, List.setIfInBounds_toArray, List.set_cons_zero, List.set_cons_succ])
  refine wpAnyJ_take (i := 5) (v := ?_) rfl (by kernel_rfl) (by kernel_rfl) (by kernel_rfl) (by kernel_rfl) (fun _ _ _ h => h) (Or.inl ⟨by rfl, ?_⟩) (by assumption) ?_
  rotate_left
  focus ((intro w hSw; (try dsimp only at hSw); go_simp); try with_reducible rfl)
  (try simp only [Act.put, List.getElem_toArray, List.getElem_cons_zero, List.getElem_cons_succ, List.setIfInBounds_toArray, List.set_cons_zero, List.set_cons_succ])
  refine wpAnyJ_take0 (i := 6) (v := ?_) rfl (by kernel_rfl) (by kernel_rfl) (by kernel_rfl) (fun _ _ _ h => h) (Or.inl ⟨by rfl, ?_⟩) ?_
  rotate_left
  focus ((intro w hSw; clear hSw; go_simp); try with_reducible rfl)
  (try simp only [Act.put, List.getElem_toArray, List.getElem_cons_zero, List.getElem_cons_succ, List.setIfInBounds_toArray, List.set_cons_zero, List.set_cons_succ])
  refine wpAnyJ_take0 (i := 7) (v := ?_) rfl (by kernel_rfl) (by kernel_rfl) (by kernel_rfl) (fun _ _ _ h => h) (Or.inl ⟨by rfl, ?_⟩) ?_
  rotate_left
  focus ((intro w hSw; clear hSw; go_simp); try with_reducible rfl)
  (try simp only [Act.put, List.getElem_toArray, List.getElem_cons_zero, List.getElem_cons_succ, List.setIfInBounds_toArray, List.set_cons_zero, List.set_cons_succ])
  refine wpAnyJ_take0 (i := 8) (v := ?_) rfl (by kernel_rfl) (by kernel_rfl) (by kernel_rfl) (fun _ _ _ h => h) (Or.inl ⟨by rfl, ?_⟩) ?_
  rotate_left
  focus ((intro w hSw; clear hSw; go_simp); try with_reducible rfl)
  (try simp only [Act.put, List.getElem_toArray, List.getElem_cons_zero, List.getElem_cons_succ, List.setIfInBounds_toArray, List.set_cons_zero, List.set_cons_succ])
  refine wpAnyJ_take0 (i := 10) (v := ?_) rfl (by kernel_rfl) (by kernel_rfl) (by kernel_rfl) (fun _ _ _ h => h) (Or.inl ⟨by rfl, ?_⟩) ?_
  rotate_left
  focus ((intro w hSw; clear hSw; go_simp); try with_reducible rfl)
  (try simp only [Act.put, List.getElem_toArray, List.getElem_cons_zero, List.getElem_cons_succ, List.setIfInBounds_toArray, List.set_cons_zero, List.set_cons_succ])
  refine wpAnyJ_take0 (i := 11) (v := ?_) rfl (by kernel_rfl) (by kernel_rfl) (by kernel_rfl) (fun _ _ _ h => h) (Or.inl ⟨by rfl, ?_⟩) ?_
  rotate_left
  focus ((intro w hSw; clear hSw; go_simp); try with_reducible rfl)
  (try simp only [Act.put, List.getElem_toArray, List.getElem_cons_zero, List.getElem_cons_succ, List.setIfInBounds_toArray, List.set_cons_zero, List.set_cons_succ])
  refine wpAnyJ_take0 (i := 12) (v := ?_) rfl (by kernel_rfl) (by kernel_rfl) (by kernel_rfl) (fun _ _ _ h => h) (Or.inl ⟨by rfl, ?_⟩) ?_
  rotate_left
  focus ((intro w hSw; clear hSw; go_simp); try with_reducible rfl)
  (try simp only [Act.put, List.getElem_toArray, List.getElem_cons_zero, List.getElem_cons_succ, List.setIfInBounds_toArray, List.set_cons_zero, List.set_cons_succ])
  refine wpAnyJ_take (i := 13) (v := ?_) rfl (by kernel_rfl) (by kernel_rfl) (by kernel_rfl) (by kernel_rfl) (fun _ _ _ h => h) (Or.inl ⟨by rfl, ?_⟩) (by assumption) ?_
  rotate_left
  focus ((intro w hSw; (try dsimp only at hSw); go_simp); try with_reducible rfl)
  (try simp only [Act.put, List.getElem_toArray, List.getElem_cons_zero, List.getElem_cons_succ, List.setIfInBounds_toArray, List.set_cons_zero, List.set_cons_succ])
  refine wpAnyJ_take0 (i := 14) (v := ?_) rfl (by kernel_rfl) (by kernel_rfl) (by kernel_rfl) (fun _ _ _ h => h) (Or.inl ⟨by rfl, ?_⟩) ?_
  rotate_left
  focus ((intro w hSw; clear hSw; go_simp); try with_reducible rfl)
  (try simp only [Act.put, List.getElem_toArray, List.getElem_cons_zero, List.getElem_cons_succ, List.setIfInBounds_toArray, List.set_cons_zero, List.set_cons_succ])
  refine wpAnyJ_take0 (i := 15) (v := ?_) rfl (by kernel_rfl) (by kernel_rfl) (by kernel_rfl) (fun _ _ _ h => h) (Or.inl ⟨by rfl, ?_⟩) ?_
  rotate_left
  focus ((intro w hSw; clear hSw; go_simp); try with_reducible rfl)
  (try simp only [Act.put, List.getElem_toArray, List.getElem_cons_zero, List.getElem_cons_succ, List.setIfInBounds_toArray, List.set_cons_zero, List.set_cons_succ])
  refine wpAnyJ_take0 (i := 16) (v := ?_) rfl (by kernel_rfl) (by kernel_rfl) (by kernel_rfl) (fun _ _ _ h => h) (Or.inl ⟨by rfl, ?_⟩) ?_
  rotate_left
  focus ((intro w hSw; clear hSw; go_simp); try with_reducible rfl)
  (try simp only [Act.put, List.getElem_toArray, List.getElem_cons_zero, List.getElem_cons_succ, List.setIfInBounds_toArray, List.set_cons_zero, List.set_cons_succ])
  refine wpAnyJ_take0 (i := 17) (v := ?_) rfl (by kernel_rfl) (by kernel_rfl) (by kernel_rfl) (fun _ _ _ h => h) (Or.inl ⟨by rfl, ?_⟩) ?_
  rotate_left
  focus ((intro w hSw; clear hSw; go_simp); try with_reducible rfl)
  (try simp only [Act.put, List.getElem_toArray, List.getElem_cons_zero, List.getElem_cons_succ, List.setIfInBounds_toArray, List.set_cons_zero, List.set_cons_succ])
  refine wpAnyJ_ready (rs := [9]) (by kernel_rfl) (by simp) ?_
  refine AllReadyJ.cons rfl (fun KK hKK => ?_) AllReadyJ.nil
  go_simp
  go_at_call 52
  refine (HST.del1 (i := i) (by rw [Hkn.out]; exact HZL.out) (by have := HSN.out; omega) ((i : Int) + 1) rfl i rfl).mono ?_
  rintro e u1 ⟨rfl, HST2⟩
  clear HST
  have HST := HST2
  clear HST2
  have hH2 : (fun u : World => u.cell? ⟨pn, 0, none⟩ = some (.slice (some ⟨gn, 0, none⟩) kn cn1) ∧ u.cell? ⟨pn, 2, none⟩ = some (.slice (some ⟨g3, 0, none⟩) cnl cn3)) u1 := ⟨HST.cell.1, HST.cell.2.2.1⟩
  refine hKK.out _ _ (fun _ _ => hH2) ?_
  clear hKK KK
  clear hHeld
  have hHeld := hH2
  clear hH2 u0
  revert u1
  intro u0 HST hHeld
  (try simp only [Act.put, List.getElem_toArray, List.getElem_cons_zero, List.getElem_cons_succ, List.setIfInBounds_toArray, List.set_cons_zero, List.set_cons_succ])
  refine wpAnyJ_ready (rs := [18]) (by kernel_rfl) (by simp) ?_
  refine AllReadyJ.cons rfl (fun KK hKK => ?_) AllReadyJ.nil
  go_simp
  go_at_call 67
  refine (HST.del3 (i := i + 1) (by rw [Hcnl.out]; exact HTL.out) (by have := HSN.out; omega) ((i : Int) + 2) (by omega) ((i : Int) + 1) (by omega)).mono ?_
  rintro e u1 ⟨rfl, HST2⟩
  clear HST
  have HST := HST2
  clear HST2
  have hH2 : (fun u : World => u.cell? ⟨pn, 0, none⟩ = some (.slice (some ⟨gn, 0, none⟩) kn cn1) ∧ u.cell? ⟨pn, 2, none⟩ = some (.slice (some ⟨g3, 0, none⟩) cnl cn3)) u1 := ⟨HST.cell.1, HST.cell.2.2.1⟩
  refine hKK.out _ _ (fun _ _ => hH2) ?_
  clear hKK KK
  clear hHeld
  have hHeld := hH2
  clear hH2 u0
  revert u1
  intro u0 HST hHeld
  (try simp only [Act.put, List.getElem_toArray, List.getElem_cons_zero, List.getElem_cons_succ, List.setIfInBounds_toArray, List.set_cons_zero, List.set_cons_succ])
  refine wpAnyJ_take0 (i := 19) (v := ?_) rfl (by kernel_rfl) (by kernel_rfl) (by kernel_rfl) (fun _ _ _ h => h) (Or.inl ⟨by rfl, ?_⟩) ?_
  rotate_left
  focus ((intro w hSw; clear hSw; go_simp); try with_reducible rfl)
  (try simp only [Act.put, List.getElem_toArray, List.getElem_cons_zero, List.getElem_cons_succ, List.setIfInBounds_toArray, List.set_cons_zero, List.set_cons_succ])
  refine wpAnyJ_take0 (i := 20) (v := ?_) rfl (by kernel_rfl) (by kernel_rfl) (by kernel_rfl) (fun _ _ _ h => h) (Or.inl ⟨by rfl, ?_⟩) ?_
  rotate_left
  focus ((intro w hSw; clear hSw; go_simp); try with_reducible rfl)
  (try simp only [Act.put, List.getElem_toArray, List.getElem_cons_zero, List.getElem_cons_succ, List.setIfInBounds_toArray, List.set_cons_zero, List.set_cons_succ])
  refine wpAnyJ_ready (rs := [21]) (by kernel_rfl) (by simp) ?_
  refine AllReadyJ.cons rfl (fun KK hKK => ?_) AllReadyJ.nil
  have hz1 := HST.cell.2.2.2 0
  have hz2 := HST.cell.1
  go_simp
  clear hz1 hz2
  replace HST := HST.put0 (.slice (some ⟨gn, 0, none⟩) (kn - 1) cn1)
  refine hKK.out _ _ (fun h => absurd h (by decide)) ?_
  clear hKK KK
  generalize u0.setCell ⟨pn, 0, none⟩ (.slice (some ⟨gn, 0, none⟩) (kn - 1) cn1) = u1 at HST ⊢
  (try clear hHeld)
  clear u0
  revert u1
  intro u0 HST
  (try simp only [Act.put, List.getElem_toArray, List.getElem_cons_zero, List.getElem_cons_succ, List.setIfInBounds_toArray, List.set_cons_zero, List.set_cons_succ])
  refine wpAnyJ_take0 (i := 22) (v := ?_) rfl (by kernel_rfl) (by kernel_rfl) (by kernel_rfl) (fun _ _ _ h => h) (Or.inl ⟨by rfl, ?_⟩) ?_
  rotate_left
  focus ((intro w hSw; clear hSw; go_simp); try with_reducible rfl)
  (try simp only [Act.put, List.getElem_toArray, List.getElem_cons_zero, List.getElem_cons_succ, List.setIfInBounds_toArray, List.set_cons_zero, List.set_cons_succ])
  refine wpAnyJ_take0 (i := 23) (v := ?_) rfl (by kernel_rfl) (by kernel_rfl) (by kernel_rfl) (fun _ _ _ h => h) (Or.inl ⟨by rfl, ?_⟩) ?_
  rotate_left
  focus ((intro w hSw; clear hSw; go_simp); try with_reducible rfl)
  (try simp only [Act.put, List.getElem_toArray, List.getElem_cons_zero, List.getElem_cons_succ, List.setIfInBounds_toArray, List.set_cons_zero, List.set_cons_succ])
  refine wpAnyJ_ready (rs := [24]) (by kernel_rfl) (by simp) ?_
  refine AllReadyJ.cons rfl (fun KK hKK => ?_) AllReadyJ.nil
  have hz1 := HST.cell.2.2.2 2
  have hz2 := HST.cell.2.2.1
  go_simp
  clear hz1 hz2
  replace HST := HST.put2 (.slice (some ⟨g3, 0, none⟩) (cnl - 1) cn3)
  refine hKK.out _ _ (fun h => absurd h (by decide)) ?_
  clear hKK KK
  generalize u0.setCell ⟨pn, 2, none⟩ (.slice (some ⟨g3, 0, none⟩) (cnl - 1) cn3) = u1 at HST ⊢
  (try clear hHeld)
  clear u0
  revert u1
  intro u0 HST
  (try simp only [Act.put, List.getElem_toArray, List.getElem_cons_zero, List.getElem_cons_succ, List.setIfInBounds_toArray, List.set_cons_zero, List.set_cons_succ])
  refine wpAnyJ_done (by kernel_rfl) ?_ _
  refine NoPanic.normal ?_
  have T4 := Lib.hid (T1.out.upd_n HST.end HST.fr)
  clear HST T1
  go_wp2_with fail
  rw [← HQ.out]
  refine ⟨rfl, _, results_none rfl _ _ _, rfl, ?_⟩
  have hka := Hka.out
  have hkb := Hkb.out
  have hkn := Hkn.out
  have hvn := Hvn.out
  have hcnl := Hcnl.out
  have hval := Hval.out
  have hcal := Hcal.out
  have hvb := Hvb.out
  have hcbl := Hcbl.out
  subst hka hkb hkn hvn hcnl hval hcal hvb hcbl
  exact ⟨_, _, _, _, _, _, _, _, _, T4.out⟩
end Go.Proofs.Ytjoopjmcnkiieaa

/- Two neighbours: what lends, what joins. Conditions: the tree is there. -/
namespace Go.Proofs.Ytjoopjmcnkiieaa
open Go.RowKit Go.Lib
set_option linter.unusedSimpArgs false
set_option linter.unusedVariables false

/-- The blocks below a node. -/
def kf : Nat → Tr → Nat → Nat
  | 0, _, _ => 0
  | d + 1, t, k => fpL (fp d) t.cs k
theorem fp_kf (d : Nat) (t : Tr) (k : Nat) : fp d t k = t.ow k + kf d t k := by cases d <;> simp [fp, kf]
theorem pair {d : Nat} {w w' : World} {T a b : Tr} {A B : List Tr} {on oa ob : Nat → Nat} (hm : mem (d + 1) w T) (hcs : T.cs = A ++ a :: b :: B) (h1 : ∀ k, fp (d + 1) T k ≤ 1)
    (hT : Fr (fun k => T.ow k + a.ow k + b.ow k) (fun k => on k + oa k + ob k) w w') :
    (∀ y ∈ A ++ B, mem d w' y) ∧ (∀ d', d = d' + 1 → ∀ y ∈ a.cs ++ b.cs, mem d' w' y) ∧ Fr (fp (d + 1) T) (fun k => on k + (fpL (fp d) A k + ((oa k + kf d a k) + ((ob k + kf d b k) + fpL (fp d) B k)))) w w' := by
  have h2 : ∀ k, T.ow k + (fpL (fp d) A k + ((a.ow k + kf d a k) + ((b.ow k + kf d b k) + fpL (fp d) B k))) ≤ 1 := fun k => by
    have := h1 k
    simp only [fp, hcs, fpL_append, fpL, fp_kf d a, fp_kf d b] at this
    omega
  have hz : ∀ k, w.heap.size ≤ k → T.ow k + (fpL (fp d) A k + ((a.ow k + kf d a k) + ((b.ow k + kf d b k) + fpL (fp d) B k))) = 0 := fun k hk => by
    have := mem_hi hm k hk
    simp only [fp, hcs, fpL_append, fpL, fp_kf d a, fp_kf d b] at this
    omega
  refine ⟨fun y hy => ?_, fun d' e y hy => ?_, ?_⟩
  · rcases List.mem_append.1 hy with hy | hy
    · exact mem_frame (hm.2.2 y (by rw [hcs]; exact List.mem_append_left _ hy)) hT (fun k => by have := h2 k; have := fpL_mem (f := fp d) hy k; omega)
    · exact mem_frame (hm.2.2 y (by rw [hcs]; exact List.mem_append_right _ (List.mem_cons_of_mem _ (List.mem_cons_of_mem _ hy)))) hT (fun k => by have := h2 k; have := fpL_mem (f := fp d) hy k; omega)
  · subst e
    rcases List.mem_append.1 hy with hy | hy
    · exact mem_frame ((hm.2.2 a (by rw [hcs]; simp)).2.2 y hy) hT (fun k => by have := h2 k; simp only [kf] at this; have := fpL_mem (f := fp d') hy k; omega)
    · exact mem_frame ((hm.2.2 b (by rw [hcs]; simp)).2.2 y hy) hT (fun k => by have := h2 k; simp only [kf] at this; have := fpL_mem (f := fp d') hy k; omega)
  · refine (hT.frame (fun k => fpL (fp d) A k + (kf d a k + (kf d b k + fpL (fp d) B k))) (fun k => by have := h2 k; omega) (fun k hk => by have := hz k hk; omega)).congr (fun k => ?_) (fun k => by omega)
    simp only [fp, hcs, fpL_append, fpL, fp_kf d a, fp_kf d b]
    omega
/-- A key goes from one neighbour to the other. -/
def Shift (o d : Nat) (T : Tr) (A B : List Tr) (f : Nat) (lo0 hi' : Option ByteArray) (a c : Tr) (w w' : World) : Prop :=
  ∃ k' a' c' n1 n2 n3, a'.p = a.p ∧ c'.p = c.p ∧ (∀ y ∈ A ++ a' :: c' :: B, mem d w' y) ∧ NodeAt w' T.p n1 n2 n3 (T.ks.set f k') [] (T.cs.map Tr.p) ∧
    Fr (fp (d + 1) T) (fun k => ow T.p n1 n2 n3 k + fpL (fp d) (A ++ a' :: c' :: B) k) w w' ∧ inv o d (lst o d) o lo0 (some k') a' ∧ inv o d (lst o d) o (some k') hi' c' ∧ flat d a' ++ flat d c' = flat d a ++ flat d c
/-- Two neighbours become one. -/
def Joint (o d : Nat) (T : Tr) (A B : List Tr) (f : Nat) (lo0 hi' : Option ByteArray) (a c : Tr) (w w' : World) : Prop :=
  ∃ ab n1 n2 n3, ab.p = a.p ∧ (∀ y ∈ A ++ ab :: B, mem d w' y) ∧ NodeAt w' T.p n1 n2 n3 (T.ks.eraseIdx f) [] ((A ++ ab :: B).map Tr.p) ∧
    Fr (fp (d + 1) T) (fun k => ow T.p n1 n2 n3 k + fpL (fp d) (A ++ ab :: B) k) w w' ∧ inv o d (lst o d) o lo0 hi' ab ∧ flat d ab = flat d a ++ flat d c
theorem mem_two {A B : List Tr} {a' c' : Tr} {P : Tr → Prop} (h : ∀ y ∈ A ++ B, P y) (ha : P a') (hc : P c') : ∀ y ∈ A ++ a' :: c' :: B, P y := fun y hy => by
  rcases List.mem_append.1 hy with hy | hy
  · exact h y (List.mem_append_left _ hy)
  · rcases List.mem_cons.1 hy with rfl | hy
    · exact ha
    · rcases List.mem_cons.1 hy with rfl | hy
      · exact hc
      · exact h y (List.mem_append_right _ hy)
section
variable {T a c : Tr} {A B : List Tr} (hcs : T.cs = A ++ a :: c :: B)
include hcs
theorem kid_a : (T.cs.map Tr.p)[A.length]? = some a.p := by rw [List.getElem?_map, hcs, List.getElem?_append_right (by omega), Nat.sub_self]; rfl
theorem kid_c : (T.cs.map Tr.p)[A.length + 1]? = some c.p := by rw [List.getElem?_map, hcs, List.getElem?_append_right (by omega), show A.length + 1 - A.length = 1 from by omega]; rfl
end
theorem three {d : Nat} {T a c : Tr} {A B : List Tr} (hcs : T.cs = A ++ a :: c :: B) (h1 : ∀ k, fp (d + 1) T k ≤ 1) (k : Nat) : ow T.p T.v1 T.v2 T.v3 k + ow a.p a.v1 a.v2 a.v3 k + ow c.p c.v1 c.v2 c.v3 k ≤ 1 := by
  have h := h1 k
  have e1 := fp_ow d a k
  have e2 := fp_ow d c k
  simp only [fp, hcs, fpL_append, fpL, Tr.ow] at h e1 e2
  omega
/-- The left neighbour lends, leaves. -/
theorem shift_rl {o : Nat} {w : World} {T a c : Tr} {A B : List Tr} {lo0 hi' : Option ByteArray} {k : ByteArray} (ho3 : 3 ≤ o) (ho2 : o ≤ 64) (hm : mem 1 w T) (hcs : T.cs = A ++ a :: c :: B) (h1 : ∀ k, fp 1 T k ≤ 1) (hk : T.ks[A.length]? = some k) (hTs : T.ks.length ≤ 64 ∧ T.cs.length ≤ 65)
    (ha : inv o 0 (lst o 0) o lo0 (some k) a) (hc : inv o 0 (lst o 0 - 1) o (some k) hi' c) (hla : lst o 0 < a.ks.length) (hlc : c.ks.length < lst o 0) :
    Calls Try.prog 62 #[.pointer (some ⟨T.p, 0, none⟩), .int .i64 A.length, .int .i64 ((A.length : Int) + 1)] w fun e w' => e = .returned (.tuple #[]) ∧ Shift o 0 T A B A.length lo0 hi' a c w w' := by
  have hma : mem 0 w a := hm.2.2 a (by rw [hcs]; simp)
  have hmc : mem 0 w c := hm.2.2 c (by rw [hcs]; simp)
  obtain ⟨avs, aso, ain, alh, alo, ahi⟩ := ha
  obtain ⟨cvs, cso, cin, clh, clo, chi⟩ := hc
  simp only [lst] at hla hlc alo clo
  obtain ⟨kk, hkk⟩ : ∃ kk, a.ks.length = kk + 1 := ⟨a.ks.length - 1, by omega⟩
  obtain ⟨x, hx⟩ : ∃ x, a.ks[kk]? = some x := get_some (by omega)
  obtain ⟨y, hy⟩ : ∃ y, a.vs[kk]? = some y := get_some (by omega)
  have hlen : (T.cs.map Tr.p).length = T.cs.length := List.length_map _
  have hkl := (List.getElem?_eq_some_iff.1 hk).1
  have := lend_rl (t := A.length + 1) hm.1 hma.1 hmc.1 (three hcs h1) (kid_a hcs) (kid_c hcs) (by rw [hlen]; simp; omega) (by omega) hkl hkk (by omega) rfl hx hy
  rw [show ((A.length + 1 : Nat) : Int) = (A.length : Int) + 1 from by omega] at this
  refine this.mono ?_
  rintro e w' ⟨rfl, n1, n2, n3, a1, a2, a3, c1, c2, c3, hT⟩
  obtain ⟨hAB, _, hF⟩ := pair hm hcs h1 hT.fr
  have hlo : ∀ (i : Nat) z, i < kk → a.ks[i]? = some z → ltS z x = true := fun i z hi hz => aso i _ z x hi hz hx
  have hxk : ltS x k = true := (ain x (List.mem_of_getElem? hx)).2 k rfl
  have hd : a.ks.drop kk = [x] := by
    have := (pos_at aso hx).1
    rw [this, List.drop_eq_nil_of_le (by omega)]
  have hdv : a.vs.drop kk = [y] := by
    obtain ⟨hl, he⟩ := List.getElem?_eq_some_iff.1 hy
    rw [List.drop_eq_getElem_cons hl, he, List.drop_eq_nil_of_le (by omega)]
  refine ⟨rfl, x, .mk a.p a1 a2 a3 (a.ks.take kk) (a.vs.take kk) [], .mk c.p c1 c2 c3 (insAt c.ks 0 x) (insAt c.vs 0 y) [], n1, n2, n3, rfl, rfl, mem_two hAB ⟨hT.a, rfl⟩ ⟨hT.b, rfl⟩, hT.n, hF.congr (fun _ => rfl) (fun k => ?_), ⟨?_, sorted_sub aso (List.take_sublist _ _), fun z hz => ⟨(ain z (List.mem_of_mem_take hz)).1, fun h e => ?_⟩, fun l h e1 e2 => ?_, ?_, ?_⟩, ⟨?_, ?_, ?_, ?_, ?_, ?_⟩, ?_⟩
  · simp only [fpL_append, fpL, fp, kf, Tr.ow, Tr.mk_p, Tr.mk_v1, Tr.mk_v2, Tr.mk_v3]; omega
  · simp; omega
  · injection e with e; subst e; exact pos_lo hlo z hz
  · injection e2 with e2; subst e2; subst e1
    obtain ⟨z, hz⟩ : ∃ z, a.ks[0]? = some z := get_some (by omega)
    exact ltS_le_lt ((ain z (List.mem_of_getElem? hz)).1 l rfl) (hlo 0 z (by omega) hz)
  · simp [lst]; omega
  · simp; omega
  · simp [insAt]; omega
  · rw [sorted_iff]
    simp only [Tr.mk_ks, insAt, List.take_zero, List.drop_zero, List.nil_append]
    exact List.pairwise_cons.2 ⟨fun z hz => ltS_lt_le hxk ((cin z hz).1 k rfl), (sorted_iff _).1 cso⟩
  · intro z hz
    rcases mem_insAt hz with rfl | hz
    · exact ⟨fun l e => by injection e with e; subst e; exact ltS_irrefl _, fun h e => ltS_trans hxk (clh k h rfl e)⟩
    · exact ⟨fun l e => by injection e with e; subst e; exact ltS_asymm (ltS_lt_le hxk ((cin z hz).1 k rfl)), (cin z hz).2⟩
  · exact fun l h e1 e2 => by injection e1 with e1; subst e1; exact ltS_trans hxk (clh k h rfl e2)
  · simp [insAt, lst]; omega
  · simp [insAt]; omega
  · show (a.ks.take kk).zip (a.vs.take kk) ++ (insAt c.ks 0 x).zip (insAt c.vs 0 y) = a.ks.zip a.vs ++ c.ks.zip c.vs
    rw [zip_split avs kk, hd, hdv]
    simp [insAt]
end Go.Proofs.Ytjoopjmcnkiieaa

/- Two neighbours: the right leaf lends; leaves join. Conditions: the tree is there. -/
namespace Go.Proofs.Ytjoopjmcnkiieaa
open Go.RowKit Go.Lib
set_option linter.unusedSimpArgs false
set_option linter.unusedVariables false

theorem three' {d : Nat} {T a c : Tr} {A B : List Tr} (hcs : T.cs = A ++ a :: c :: B) (h1 : ∀ k, fp (d + 1) T k ≤ 1) (k : Nat) : ow T.p T.v1 T.v2 T.v3 k + ow c.p c.v1 c.v2 c.v3 k + ow a.p a.v1 a.v2 a.v3 k ≤ 1 := by
  have := three hcs h1 k; omega
theorem Fr.swap {F0 F0' on oa ob : Nat → Nat} {w w' : World} (h : Fr F0 (fun k => on k + ob k + oa k) w w') (h0 : ∀ k, F0 k = F0' k) : Fr F0' (fun k => on k + oa k + ob k) w w' := h.congr h0 (fun k => by omega)
/-- The right neighbour lends, leaves. -/
theorem shift_ll {o : Nat} {w : World} {T a c : Tr} {A B : List Tr} {lo0 hi' : Option ByteArray} {k : ByteArray} (ho3 : 3 ≤ o) (ho2 : o ≤ 64) (hm : mem 1 w T) (hcs : T.cs = A ++ a :: c :: B) (h1 : ∀ k, fp 1 T k ≤ 1) (hk : T.ks[A.length]? = some k) (hTs : T.ks.length ≤ 64 ∧ T.cs.length ≤ 65)
    (ha : inv o 0 (lst o 0 - 1) o lo0 (some k) a) (hc : inv o 0 (lst o 0) o (some k) hi' c) (hla : a.ks.length < lst o 0) (hlc : lst o 0 < c.ks.length) :
    Calls Try.prog 62 #[.pointer (some ⟨T.p, 0, none⟩), .int .i64 ((A.length : Int) + 1), .int .i64 A.length] w fun e w' => e = .returned (.tuple #[]) ∧ Shift o 0 T A B A.length lo0 hi' a c w w' := by
  have hma : mem 0 w a := hm.2.2 a (by rw [hcs]; simp)
  have hmc : mem 0 w c := hm.2.2 c (by rw [hcs]; simp)
  obtain ⟨avs, aso, ain, alh, alo, ahi⟩ := ha
  obtain ⟨cvs, cso, cin, clh, clo, chi⟩ := hc
  simp only [lst] at hla hlc alo clo
  obtain ⟨kk, hkk⟩ : ∃ kk, c.ks.length = kk + 1 := ⟨c.ks.length - 1, by omega⟩
  obtain ⟨x, hx⟩ : ∃ x, c.ks[0]? = some x := get_some (by omega)
  obtain ⟨x', hx'⟩ : ∃ x, c.ks[1]? = some x := get_some (by omega)
  obtain ⟨y, hy⟩ : ∃ y, c.vs[0]? = some y := get_some (by omega)
  have hlen : (T.cs.map Tr.p).length = T.cs.length := List.length_map _
  have hkl := (List.getElem?_eq_some_iff.1 hk).1
  obtain ⟨K, hK⟩ : ∃ K, c.ks = x :: K := by
    cases hks : c.ks with
    | nil => rw [hks] at hx; cases hx
    | cons z K => rw [hks] at hx; injection hx with hx; subst hx; exact ⟨K, rfl⟩
  obtain ⟨V, hV⟩ : ∃ V, c.vs = y :: V := by
    cases hvs : c.vs with
    | nil => rw [hvs] at hy; cases hy
    | cons z K => rw [hvs] at hy; injection hy with hy; subst hy; exact ⟨K, rfl⟩
  have hx2 : (c.ks.eraseIdx 0)[0]? = some x' := by rw [hK] at hx' ⊢; exact hx'
  have := lend_ll (f := A.length + 1) (t := A.length) hm.1 hmc.1 hma.1 (three' hcs h1) (kid_c hcs) (kid_a hcs) (by rw [hlen]; simp; omega) (by omega) hkl hkk (by omega) rfl hx hy hx2
  rw [show ((A.length + 1 : Nat) : Int) = (A.length : Int) + 1 from by omega] at this
  refine this.mono ?_
  rintro e w' ⟨rfl, n1, n2, n3, c1, c2, c3, a1, a2, a3, hT⟩
  obtain ⟨hAB, _, hF⟩ := pair hm hcs h1 (hT.fr.swap (fun k => by unfold Tr.ow; omega))
  have hkx : ltS x k = false := (cin x (List.mem_of_getElem? hx)).1 k rfl
  have hxx : ltS x x' = true := cso 0 1 x x' (by omega) hx hx'
  have hkx' : ltS k x' = true := ltS_le_lt hkx hxx
  have hrest : ∀ z ∈ K, ltS x z = true := by
    have := (sorted_iff _).1 cso
    rw [hK, List.pairwise_cons] at this
    exact this.1
  have hsK : SortedS K := sorted_sub cso (by rw [hK]; exact List.sublist_cons_self _ _)
  have hx'h : ∀ h, hi' = some h → ltS x' h = true := (cin x' (List.mem_of_getElem? hx')).2
  have hK0 : K[0]? = some x' := by rw [hK] at hx'; exact hx'
  have e1 : c.ks.eraseIdx 0 = K := by rw [hK]; rfl
  have e2 : c.vs.eraseIdx 0 = V := by rw [hV]; rfl
  have hTa := hT.a
  rw [e1, e2] at hTa
  have hkl' : K.length = kk := by rw [hK] at hkk; simpa using hkk
  have hvl' : V.length = kk := by rw [hV, hK] at cvs; simp at cvs; omega
  refine ⟨rfl, x', .mk a.p a1 a2 a3 (a.ks ++ [x]) (a.vs ++ [y]) [], .mk c.p c1 c2 c3 K V [], n1, n2, n3, rfl, rfl, mem_two hAB ⟨hT.b, rfl⟩ ⟨hTa, rfl⟩, hT.n, hF.congr (fun _ => rfl) (fun k => ?_), ⟨?_, ?_, fun z hz => ?_, fun l h e1 e2 => ?_, ?_, ?_⟩, ⟨?_, hsK, fun z hz => ⟨fun l e => ?_, (cin z (by rw [hK]; exact List.mem_cons_of_mem _ hz)).2⟩, fun l h e1 e2 => ?_, ?_, ?_⟩, ?_⟩
  · simp only [fpL_append, fpL, fp, kf, Tr.ow, Tr.mk_p, Tr.mk_v1, Tr.mk_v2, Tr.mk_v3]; omega
  · simp; omega
  · rw [sorted_iff]
    simp only [Tr.mk_ks]
    refine List.pairwise_append.2 ⟨(sorted_iff _).1 aso, List.pairwise_singleton _ _, fun z hz u hu => ?_⟩
    rw [List.mem_singleton.1 hu]
    exact ltS_lt_le ((ain z hz).2 k rfl) hkx
  · have hz : z ∈ a.ks ++ [x] := hz
    rcases List.mem_append.1 hz with hz | hz
    · exact ⟨(ain z hz).1, fun h e => by injection e with e; subst e; exact ltS_trans ((ain z hz).2 k rfl) hkx'⟩
    · rw [List.mem_singleton.1 hz]
      exact ⟨fun l e => ltS_asymm (ltS_lt_le (alh l k e rfl) hkx), fun h e => by injection e with e; subst e; exact hxx⟩
  · injection e2 with e2; subst e2; exact ltS_trans (alh l k e1 rfl) hkx'
  · simp [lst]; omega
  · simp; omega
  · simp only [Tr.mk_vs, Tr.mk_ks]; omega
  · injection e with e
    subst e
    obtain ⟨i, hi⟩ := List.mem_iff_getElem?.1 hz
    have hi : K[i]? = some z := hi
    rcases Nat.eq_zero_or_pos i with rfl | hp
    · rw [hK0] at hi; injection hi with hi; subst hi; exact ltS_irrefl _
    · exact ltS_asymm (hsK 0 i x' z hp hK0 hi)
  · injection e1 with e1; subst e1; exact hx'h h e2
  · simp only [Tr.mk_ks, lst]; omega
  · simp only [Tr.mk_ks]; omega
  · show (a.ks ++ [x]).zip (a.vs ++ [y]) ++ K.zip V = a.ks.zip a.vs ++ c.ks.zip c.vs
    rw [List.zip_append avs.symm, hK, hV]
    simp
/-- Two leaves join. -/
theorem joint_l {o : Nat} {w : World} {T a c : Tr} {A B : List Tr} {lo0 hi' : Option ByteArray} {k : ByteArray} {la lc : Nat} (ho3 : 3 ≤ o) (ho2 : o ≤ 64) (hm : mem 1 w T) (hcs : T.cs = A ++ a :: c :: B) (h1 : ∀ k, fp 1 T k ≤ 1) (hk : T.ks[A.length]? = some k) (hTs : T.ks.length ≤ 64 ∧ T.cs.length ≤ 65)
    (ha : inv o 0 la o lo0 (some k) a) (hc : inv o 0 lc o (some k) hi' c) (hsum : a.ks.length + c.ks.length ≤ 2 * lst o 0 - 1) (hsum2 : lst o 0 ≤ a.ks.length + c.ks.length) :
    Calls Try.prog 63 #[.pointer (some ⟨T.p, 0, none⟩), .int .i64 A.length] w fun e w' => e = .returned (.tuple #[]) ∧ Joint o 0 T A B A.length lo0 hi' a c w w' := by
  have hma : mem 0 w a := hm.2.2 a (by rw [hcs]; simp)
  have hmc : mem 0 w c := hm.2.2 c (by rw [hcs]; simp)
  obtain ⟨avs, aso, ain, alh, alo, ahi⟩ := ha
  obtain ⟨cvs, cso, cin, clh, clo, chi⟩ := hc
  simp only [lst] at hsum hsum2
  have hlen : (T.cs.map Tr.p).length = T.cs.length := List.length_map _
  have := join_l hm.1 hma.1 hmc.1 (three hcs h1) (kid_a hcs) (kid_c hcs) (by rw [hlen]; simp; omega) hk rfl
  refine this.mono ?_
  rintro e w' ⟨rfl, n1, n2, n3, a1, a2, a3, c1, c2, c3, hT⟩
  obtain ⟨hAB, _, hF⟩ := pair hm hcs h1 hT.fr
  have e1 : (T.cs.map Tr.p).eraseIdx (A.length + 1) = (A ++ Tr.mk a.p a1 a2 a3 (a.ks ++ c.ks) (a.vs ++ c.vs) [] :: B).map Tr.p := by
    rw [hcs, List.map_append, List.eraseIdx_append_of_length_le (by simp), List.length_map, show A.length + 1 - A.length = 1 from by omega]
    simp
  have hTn := hT.n
  rw [e1] at hTn
  refine ⟨rfl, .mk a.p a1 a2 a3 (a.ks ++ c.ks) (a.vs ++ c.vs) [], n1, n2, n3, rfl, fun y hy => ?_, hTn, (hF.less (fun k => ?_)), ⟨?_, ?_, fun z hz => ?_, ltB_trans alh clh, ?_, ?_⟩, ?_⟩
  · rcases List.mem_append.1 hy with hy | hy
    · exact hAB y (List.mem_append_left _ hy)
    · rcases List.mem_cons.1 hy with rfl | hy
      · exact ⟨hT.a, rfl⟩
      · exact hAB y (List.mem_append_right _ hy)
  · simp only [fpL_append, fpL, fp, kf, Tr.ow, Tr.mk_p, Tr.mk_v1, Tr.mk_v2, Tr.mk_v3]; omega
  · simp; omega
  · rw [sorted_iff]
    simp only [Tr.mk_ks]
    exact List.pairwise_append.2 ⟨(sorted_iff _).1 aso, (sorted_iff _).1 cso, fun z hz u hu => ltS_lt_le ((ain z hz).2 k rfl) ((cin u hu).1 k rfl)⟩
  · have hz : z ∈ a.ks ++ c.ks := hz
    rcases List.mem_append.1 hz with hz | hz
    · exact ⟨(ain z hz).1, fun h e => ltS_trans ((ain z hz).2 k rfl) (clh k h rfl e)⟩
    · exact ⟨fun l e => ltS_asymm (ltS_lt_le (alh l k e rfl) ((cin z hz).1 k rfl)), (cin z hz).2⟩
  · simp [lst]; omega
  · simp; omega
  · show (a.ks ++ c.ks).zip (a.vs ++ c.vs) = a.ks.zip a.vs ++ c.ks.zip c.vs
    rw [List.zip_append avs.symm]
end Go.Proofs.Ytjoopjmcnkiieaa

/- Two neighbours that are forks: one lends, both join. Conditions: the tree is there. -/
namespace Go.Proofs.Ytjoopjmcnkiieaa
open Go.RowKit Go.Lib
set_option linter.unusedSimpArgs false
set_option linter.unusedVariables false

section
variable {L : List (Tr × ByteArray)} {R : List (ByteArray × Tr)} {c0 : Tr} {ks : List ByteArray} {cs : List Tr}
theorem cut_ks (h : ks = L.map (·.2) ++ R.map (·.1)) : ks.take L.length = L.map (·.2) := by
  rw [h, List.take_append_of_le_length (by simp), List.take_of_length_le (by simp)]
theorem cut_cs (h : cs = L.map (·.1) ++ c0 :: R.map (·.2)) : (cs.map Tr.p).take (L.length + 1) = ((L.map fun y : Tr × ByteArray => y.1) ++ [c0]).map Tr.p := by
  rw [← List.map_take, h]
  congr 1
  rw [List.take_append, List.take_of_length_le (by simp), List.length_map, show L.length + 1 - L.length = 1 from by omega]
  rfl
end
/-- The left neighbour lends, forks. -/
theorem shift_rf {o d : Nat} {w : World} {T a c : Tr} {A B : List Tr} {lo0 hi' : Option ByteArray} {k : ByteArray} (ho3 : 3 ≤ o) (ho2 : o ≤ 64) (hm : mem (d + 2) w T) (hcs : T.cs = A ++ a :: c :: B) (h1 : ∀ k, fp (d + 2) T k ≤ 1) (hk : T.ks[A.length]? = some k) (hTs : T.ks.length ≤ 64 ∧ T.cs.length ≤ 65)
    (ha : inv o (d + 1) (lst o (d + 1)) o lo0 (some k) a) (hc : inv o (d + 1) (lst o (d + 1) - 1) o (some k) hi' c) (hla : lst o (d + 1) < a.ks.length) (hlc : c.ks.length < lst o (d + 1)) :
    Calls Try.prog 62 #[.pointer (some ⟨T.p, 0, none⟩), .int .i64 A.length, .int .i64 ((A.length : Int) + 1)] w fun e w' => e = .returned (.tuple #[]) ∧ Shift o (d + 1) T A B A.length lo0 hi' a c w w' := by
  have hma : mem (d + 1) w a := hm.2.2 a (by rw [hcs]; simp)
  have hmc : mem (d + 1) w c := hm.2.2 c (by rw [hcs]; simp)
  obtain ⟨haF, alo, ahi⟩ := ha
  obtain ⟨hcF, clo, chi⟩ := hc
  have hal := haF.len
  have hcl := hcF.len
  simp only [lst] at hla hlc alo clo
  obtain ⟨kk, hkk⟩ : ∃ kk, a.ks.length = kk + 1 := ⟨a.ks.length - 1, by omega⟩
  obtain ⟨L, c0, R, l', h', hL, hF⟩ := haF.focus kk (by omega)
  subst hL
  have hks := hF.ks
  have hcsa := hF.cs
  obtain ⟨x, y, rfl⟩ : ∃ x y, R = [(x, y)] := by
    have : R.length = 1 := by rw [hks] at hkk; simp at hkk; omega
    match R, this with
    | [(x, y)], _ => exact ⟨x, y, rfl⟩
  obtain ⟨rfl, h'', hy, hkh⟩ := hF.r
  have hkh : h'' = some k := hkh
  subst hkh
  have hx : a.ks[L.length]? = some x := by rw [hks, List.getElem?_append_right (by simp)]; simp
  have hyp : (a.cs.map Tr.p)[L.length + 1]? = some y.p := by rw [List.getElem?_map, hcsa, List.getElem?_append_right (by simp)]; simp
  have hlen : (T.cs.map Tr.p).length = T.cs.length := List.length_map _
  have hlena : (a.cs.map Tr.p).length = a.cs.length := List.length_map _
  have hlenc : (c.cs.map Tr.p).length = c.cs.length := List.length_map _
  have hkl := (List.getElem?_eq_some_iff.1 hk).1
  have := lend_rf (t := A.length + 1) hm.1 hma.1 hmc.1 (three hcs h1) (kid_a hcs) (kid_c hcs) (by rw [hlen, hlena, hlenc]; simp; omega) (by omega) hkk (by omega) hx hyp hk
  rw [show ((A.length + 1 : Nat) : Int) = (A.length : Int) + 1 from by omega] at this
  refine this.mono ?_
  rintro e w' ⟨rfl, n1, n2, n3, a1, a2, a3, c1, c2, c3, hT⟩
  obtain ⟨hAB, hkids, hFr⟩ := pair hm hcs h1 hT.fr
  have hkids := hkids d rfl
  have hTa := hT.a
  have hTb := hT.b
  rw [cut_ks hks, cut_cs hcsa] at hTa
  rw [show insAt c.ks 0 k = k :: c.ks from by simp [insAt], show insAt (c.cs.map Tr.p) 0 y.p = (y :: c.cs).map Tr.p from by simp [insAt]] at hTb
  have ek : kf (d + 1) a = fpL (fp d) a.cs := rfl
  have ec : kf (d + 1) c = fpL (fp d) c.cs := rfl
  refine ⟨rfl, x, .mk a.p a1 a2 a3 (L.map fun y : Tr × ByteArray => y.2) [] ((L.map fun y : Tr × ByteArray => y.1) ++ [c0]), .mk c.p c1 c2 c3 (k :: c.ks) [] (y :: c.cs), n1, n2, n3, rfl, rfl, mem_two hAB ⟨hTa, rfl, fun z hz => hkids z ?_⟩ ⟨hTb, rfl, fun z hz => hkids z ?_⟩, hT.n, hFr.congr (fun _ => rfl) (fun k => ?_), ⟨Foc.back (L := L) (c := c0) (R := []) ⟨by simp, by simp, hF.l, hF.c, rfl⟩, ?_, ?_⟩, ⟨?_, ?_, ?_⟩, ?_⟩
  · refine List.mem_append_left _ ?_
    rw [hcsa]
    rcases List.mem_append.1 hz with hz | hz
    · exact List.mem_append_left _ hz
    · rw [List.mem_singleton.1 hz]; simp
  · have hz : z ∈ y :: c.cs := hz
    rcases List.mem_cons.1 hz with rfl | hz
    · refine List.mem_append_left _ ?_
      rw [hcsa]; simp
    · exact List.mem_append_right _ hz
  · rw [ek, ec]
    have e3 : fpL (fp d) a.cs k = fpL (fp d) (L.map (·.1)) k + (fp d c0 k + fp d y k) := by rw [hcsa, fpL_append]; simp [fpL]
    simp only [fpL_append, fpL, fp, Tr.ow, Tr.mk_p, Tr.mk_v1, Tr.mk_v2, Tr.mk_v3, Tr.mk_cs, e3]; omega
  · simp only [Tr.mk_ks, lst, List.length_map]; omega
  · simp only [Tr.mk_ks, lst, List.length_map]; omega
  · obtain ⟨q, Rq, h0, e1, e2, f1, r1⟩ := hcF
    exact ⟨q |> fun _ => y, (k, q) :: Rq, some k, by simp [e1], by simp [e2], hy, rfl, h0, f1, r1⟩
  · simp [lst]; omega
  · simp; omega
  · show ((L.map (·.1)) ++ [c0]).flatMap (flat d) ++ (y :: c.cs).flatMap (flat d) = a.cs.flatMap (flat d) ++ c.cs.flatMap (flat d)
    rw [hcsa]; simp
end Go.Proofs.Ytjoopjmcnkiieaa

/- Two neighbours that are forks: the right one lends; both join. Conditions: the tree is there. -/
namespace Go.Proofs.Ytjoopjmcnkiieaa
open Go.RowKit Go.Lib
set_option linter.unusedSimpArgs false
set_option linter.unusedVariables false

theorem Frk.join {f : Option ByteArray → Option ByteArray → Tr → Prop} {lo hi : Option ByteArray} {k : ByteArray} {K1 K2 : List ByteArray} {C1 C2 : List Tr} (h1 : Frk f lo (some k) K1 C1) (h2 : Frk f (some k) hi K2 C2) : Frk f lo hi (K1 ++ [k] ++ K2) (C1 ++ C2) := by
  obtain ⟨L, al, R, l', h', hL, hF⟩ := h1.focus K1.length (Nat.le_refl _)
  obtain ⟨q, Rq, h0, rfl, rfl, f1, r1⟩ := h2
  have hks := hF.ks
  have hcs := hF.cs
  cases R with
  | cons z R => rw [hks] at hL; simp at hL
  | nil =>
    have e : h' = some k := hF.r
    subst e
    exact Foc.back (L := L ++ [(al, k)]) (c := q) (R := Rq) ⟨by rw [hks]; simp, by rw [hcs]; simp, seg_snoc.2 ⟨l', hF.l, hF.c, rfl⟩, f1, r1⟩
theorem Frk.one {f : Option ByteArray → Option ByteArray → Tr → Prop} {lo hi : Option ByteArray} {c : Tr} (h : f lo hi c) : Frk f lo hi [] [c] := ⟨c, [], hi, rfl, rfl, h, rfl⟩
/-- The right neighbour lends, forks. -/
theorem shift_lf {o d : Nat} {w : World} {T a c : Tr} {A B : List Tr} {lo0 hi' : Option ByteArray} {k : ByteArray} (ho3 : 3 ≤ o) (ho2 : o ≤ 64) (hm : mem (d + 2) w T) (hcs : T.cs = A ++ a :: c :: B) (h1 : ∀ k, fp (d + 2) T k ≤ 1) (hk : T.ks[A.length]? = some k) (hTs : T.ks.length ≤ 64 ∧ T.cs.length ≤ 65)
    (ha : inv o (d + 1) (lst o (d + 1) - 1) o lo0 (some k) a) (hc : inv o (d + 1) (lst o (d + 1)) o (some k) hi' c) (hla : a.ks.length < lst o (d + 1)) (hlc : lst o (d + 1) < c.ks.length) :
    Calls Try.prog 62 #[.pointer (some ⟨T.p, 0, none⟩), .int .i64 ((A.length : Int) + 1), .int .i64 A.length] w fun e w' => e = .returned (.tuple #[]) ∧ Shift o (d + 1) T A B A.length lo0 hi' a c w w' := by
  have hma : mem (d + 1) w a := hm.2.2 a (by rw [hcs]; simp)
  have hmc : mem (d + 1) w c := hm.2.2 c (by rw [hcs]; simp)
  obtain ⟨haF, alo, ahi⟩ := ha
  obtain ⟨hcF, clo, chi⟩ := hc
  have hal := haF.len
  have hcl := hcF.len
  simp only [lst] at hla hlc alo clo
  obtain ⟨kk, hkk⟩ : ∃ kk, c.ks.length = kk + 1 := ⟨c.ks.length - 1, by omega⟩
  obtain ⟨y0, R, h0, eks, ecs, f0, r0⟩ := hcF
  obtain ⟨z, R, rfl⟩ : ∃ z R', R = z :: R' := by
    cases R with
    | nil => rw [eks] at hkk; simp at hkk
    | cons z R => exact ⟨z, R, rfl⟩
  obtain ⟨rfl, h', f1, r1⟩ := r0
  have hx : c.ks[0]? = some z.1 := by rw [eks]; rfl
  have hyp : (c.cs.map Tr.p)[0]? = some y0.p := by rw [ecs]; rfl
  have hlen : (T.cs.map Tr.p).length = T.cs.length := List.length_map _
  have hlena : (a.cs.map Tr.p).length = a.cs.length := List.length_map _
  have hlenc : (c.cs.map Tr.p).length = c.cs.length := List.length_map _
  have hkl := (List.getElem?_eq_some_iff.1 hk).1
  have := lend_lf (f := A.length + 1) (t := A.length) hm.1 hmc.1 hma.1 (three' hcs h1) (kid_c hcs) (kid_a hcs) (by rw [hlen, hlena, hlenc]; simp; omega) (by omega) hkk (by omega) hx hyp hk
  rw [show ((A.length + 1 : Nat) : Int) = (A.length : Int) + 1 from by omega] at this
  refine this.mono ?_
  rintro e w' ⟨rfl, n1, n2, n3, c1, c2, c3, a1, a2, a3, hT⟩
  obtain ⟨hAB, hkids, hFr⟩ := pair hm hcs h1 (hT.fr.swap (fun k => by unfold Tr.ow; omega))
  have hkids := hkids d rfl
  have hTa := hT.a
  have hTb := hT.b
  rw [show c.ks.eraseIdx 0 = R.map (·.1) from by rw [eks]; rfl, show (c.cs.map Tr.p).eraseIdx 0 = (z.2 :: R.map fun y : ByteArray × Tr => y.2).map Tr.p from by rw [ecs]; rfl] at hTa
  rw [show a.cs.map Tr.p ++ [y0.p] = (a.cs ++ [y0]).map Tr.p from by simp] at hTb
  have ek : kf (d + 1) a = fpL (fp d) a.cs := rfl
  have ec : kf (d + 1) c = fpL (fp d) c.cs := rfl
  have hRl : R.length = kk := by rw [eks] at hkk; simpa using hkk
  refine ⟨rfl, z.1, .mk a.p a1 a2 a3 (a.ks ++ [k]) [] (a.cs ++ [y0]), .mk c.p c1 c2 c3 (R.map fun y : ByteArray × Tr => y.1) [] (z.2 :: R.map fun y : ByteArray × Tr => y.2), n1, n2, n3, rfl, rfl, mem_two hAB ⟨hTb, rfl, fun u hu => hkids u ?_⟩ ⟨hTa, rfl, fun u hu => hkids u ?_⟩, hT.n, hFr.congr (fun _ => rfl) (fun k => ?_), ⟨?_, ?_, ?_⟩, ⟨⟨z.2, R, h', rfl, rfl, f1, r1⟩, ?_, ?_⟩, ?_⟩
  · rcases List.mem_append.1 hu with hu | hu
    · exact List.mem_append_left _ hu
    · rw [List.mem_singleton.1 hu, ecs]; simp
  · refine List.mem_append_right _ ?_
    rw [ecs]
    exact List.mem_cons_of_mem _ hu
  · rw [ek, ec]
    have e3 : fpL (fp d) c.cs k = fp d y0 k + (fp d z.2 k + fpL (fp d) (R.map (·.2)) k) := by rw [ecs]; simp [fpL]
    simp only [fpL_append, fpL, fp, Tr.ow, Tr.mk_p, Tr.mk_v1, Tr.mk_v2, Tr.mk_v3, Tr.mk_cs, e3]; omega
  · have := haF.join (Frk.one f0)
    simpa using this
  · simp [lst]; omega
  · simp; omega
  · simp only [Tr.mk_ks, lst, List.length_map]; omega
  · simp only [Tr.mk_ks, lst, List.length_map]; omega
  · show (a.cs ++ [y0]).flatMap (flat d) ++ (z.2 :: R.map (·.2)).flatMap (flat d) = a.cs.flatMap (flat d) ++ c.cs.flatMap (flat d)
    rw [ecs]; simp
/-- Two forks join. -/
theorem joint_f {o d : Nat} {w : World} {T a c : Tr} {A B : List Tr} {lo0 hi' : Option ByteArray} {k : ByteArray} {la lc : Nat} (ho3 : 3 ≤ o) (ho2 : o ≤ 64) (hm : mem (d + 2) w T) (hcs : T.cs = A ++ a :: c :: B) (h1 : ∀ k, fp (d + 2) T k ≤ 1) (hk : T.ks[A.length]? = some k) (hTs : T.ks.length ≤ 64 ∧ T.cs.length ≤ 65)
    (ha : inv o (d + 1) la o lo0 (some k) a) (hc : inv o (d + 1) lc o (some k) hi' c) (hsum : a.ks.length + c.ks.length ≤ 2 * lst o (d + 1) - 1) (hsum2 : lst o (d + 1) ≤ a.ks.length + c.ks.length) :
    Calls Try.prog 63 #[.pointer (some ⟨T.p, 0, none⟩), .int .i64 A.length] w fun e w' => e = .returned (.tuple #[]) ∧ Joint o (d + 1) T A B A.length lo0 hi' a c w w' := by
  have hma : mem (d + 1) w a := hm.2.2 a (by rw [hcs]; simp)
  have hmc : mem (d + 1) w c := hm.2.2 c (by rw [hcs]; simp)
  obtain ⟨haF, alo, ahi⟩ := ha
  obtain ⟨hcF, clo, chi⟩ := hc
  have hal := haF.len
  have hcl := hcF.len
  simp only [lst] at hsum hsum2
  have hlen : (T.cs.map Tr.p).length = T.cs.length := List.length_map _
  have hlena : (a.cs.map Tr.p).length = a.cs.length := List.length_map _
  have hlenc : (c.cs.map Tr.p).length = c.cs.length := List.length_map _
  have := join_f hm.1 hma.1 hmc.1 (three hcs h1) (kid_a hcs) (kid_c hcs) (by rw [hlen, hlena, hlenc]; simp; omega) hk (by omega)
  refine this.mono ?_
  rintro e w' ⟨rfl, n1, n2, n3, a1, a2, a3, c1, c2, c3, hT⟩
  obtain ⟨hAB, hkids, hF⟩ := pair hm hcs h1 hT.fr
  have hkids := hkids d rfl
  have e1 : (T.cs.map Tr.p).eraseIdx (A.length + 1) = (A ++ Tr.mk a.p a1 a2 a3 (a.ks ++ [k] ++ c.ks) [] (a.cs ++ c.cs) :: B).map Tr.p := by
    rw [hcs, List.map_append, List.eraseIdx_append_of_length_le (by simp), List.length_map, show A.length + 1 - A.length = 1 from by omega]
    simp
  have hTn := hT.n
  rw [e1] at hTn
  have hTa := hT.a
  rw [← List.map_append] at hTa
  have ek : kf (d + 1) a = fpL (fp d) a.cs := rfl
  have ec : kf (d + 1) c = fpL (fp d) c.cs := rfl
  refine ⟨rfl, .mk a.p a1 a2 a3 (a.ks ++ [k] ++ c.ks) [] (a.cs ++ c.cs), n1, n2, n3, rfl, fun y hy => ?_, hTn, (hF.less (fun k => ?_)), ⟨haF.join hcF, ?_, ?_⟩, ?_⟩
  · rcases List.mem_append.1 hy with hy | hy
    · exact hAB y (List.mem_append_left _ hy)
    · rcases List.mem_cons.1 hy with rfl | hy
      · exact ⟨hTa, rfl, hkids⟩
      · exact hAB y (List.mem_append_right _ hy)
  · rw [ek, ec]
    simp only [fpL_append, fpL, fp, Tr.ow, Tr.mk_p, Tr.mk_v1, Tr.mk_v2, Tr.mk_v3, Tr.mk_cs]; omega
  · simp [lst]; omega
  · simp; omega
  · show (a.cs ++ c.cs).flatMap (flat d) = a.cs.flatMap (flat d) ++ c.cs.flatMap (flat d)
    simp
end Go.Proofs.Ytjoopjmcnkiieaa

/- mend: a kid with too few keys gets more. Conditions: the tree is there. -/
namespace Go.Proofs.Ytjoopjmcnkiieaa
open Go.RowKit Go.Lib
set_option linter.unusedSimpArgs false
set_option linter.unusedVariables false

theorem shift_r {o d : Nat} {w : World} {T a c : Tr} {A B : List Tr} {lo0 hi' : Option ByteArray} {k : ByteArray} (ho3 : 3 ≤ o) (ho2 : o ≤ 64) (hm : mem (d + 1) w T) (hcs : T.cs = A ++ a :: c :: B) (h1 : ∀ k, fp (d + 1) T k ≤ 1) (hk : T.ks[A.length]? = some k) (hTs : T.ks.length ≤ 64 ∧ T.cs.length ≤ 65)
    (ha : inv o d (lst o d) o lo0 (some k) a) (hc : inv o d (lst o d - 1) o (some k) hi' c) (hla : lst o d < a.ks.length) (hlc : c.ks.length < lst o d) :
    Calls Try.prog 62 #[.pointer (some ⟨T.p, 0, none⟩), .int .i64 A.length, .int .i64 ((A.length : Int) + 1)] w fun e w' => e = .returned (.tuple #[]) ∧ Shift o d T A B A.length lo0 hi' a c w w' := by
  cases d with
  | zero => exact shift_rl ho3 ho2 hm hcs h1 hk hTs ha hc hla hlc
  | succ d => exact shift_rf ho3 ho2 hm hcs h1 hk hTs ha hc hla hlc
theorem shift_l {o d : Nat} {w : World} {T a c : Tr} {A B : List Tr} {lo0 hi' : Option ByteArray} {k : ByteArray} (ho3 : 3 ≤ o) (ho2 : o ≤ 64) (hm : mem (d + 1) w T) (hcs : T.cs = A ++ a :: c :: B) (h1 : ∀ k, fp (d + 1) T k ≤ 1) (hk : T.ks[A.length]? = some k) (hTs : T.ks.length ≤ 64 ∧ T.cs.length ≤ 65)
    (ha : inv o d (lst o d - 1) o lo0 (some k) a) (hc : inv o d (lst o d) o (some k) hi' c) (hla : a.ks.length < lst o d) (hlc : lst o d < c.ks.length) :
    Calls Try.prog 62 #[.pointer (some ⟨T.p, 0, none⟩), .int .i64 ((A.length : Int) + 1), .int .i64 A.length] w fun e w' => e = .returned (.tuple #[]) ∧ Shift o d T A B A.length lo0 hi' a c w w' := by
  cases d with
  | zero => exact shift_ll ho3 ho2 hm hcs h1 hk hTs ha hc hla hlc
  | succ d => exact shift_lf ho3 ho2 hm hcs h1 hk hTs ha hc hla hlc
theorem joint {o d : Nat} {w : World} {T a c : Tr} {A B : List Tr} {lo0 hi' : Option ByteArray} {k : ByteArray} {la lc : Nat} (ho3 : 3 ≤ o) (ho2 : o ≤ 64) (hm : mem (d + 1) w T) (hcs : T.cs = A ++ a :: c :: B) (h1 : ∀ k, fp (d + 1) T k ≤ 1) (hk : T.ks[A.length]? = some k) (hTs : T.ks.length ≤ 64 ∧ T.cs.length ≤ 65)
    (ha : inv o d la o lo0 (some k) a) (hc : inv o d lc o (some k) hi' c) (hsum : a.ks.length + c.ks.length ≤ 2 * lst o d - 1) (hsum2 : lst o d ≤ a.ks.length + c.ks.length) :
    Calls Try.prog 63 #[.pointer (some ⟨T.p, 0, none⟩), .int .i64 A.length] w fun e w' => e = .returned (.tuple #[]) ∧ Joint o d T A B A.length lo0 hi' a c w w' := by
  cases d with
  | zero => exact joint_l ho3 ho2 hm hcs h1 hk hTs ha hc hsum hsum2
  | succ d => exact joint_f ho3 ho2 hm hcs h1 hk hTs ha hc hsum hsum2
/-- What mend leaves. -/
def MendAny (o d : Nat) (lo hi : Option ByteArray) (T : Tr) (w w' : World) : Prop :=
  ∃ T', T'.p = T.p ∧ mem (d + 1) w' T' ∧ Fr (fp (d + 1) T) (fp (d + 1) T') w w' ∧ Frk (fun lo hi c => inv o d (lst o d) o lo hi c) lo hi T'.ks T'.cs ∧ T.ks.length ≤ T'.ks.length + 1 ∧ T'.ks.length ≤ T.ks.length ∧ flat (d + 1) T' = flat (d + 1) T
section
variable {o d : Nat} {w w' : World} {T a c : Tr} {lo hi lo0 hi' : Option ByteArray} {k : ByteArray} {L : List (Tr × ByteArray)} {R : List (ByteArray × Tr)}
  (hks : T.ks = L.map (·.2) ++ k :: R.map (·.1)) (hcs : T.cs = L.map (·.1) ++ a :: c :: R.map (·.2)) (hl : seg (fun lo hi c => inv o d (lst o d) o lo hi c) lo L lo0) (hr : rseg (fun lo hi c => inv o d (lst o d) o lo hi c) hi' R hi)
include hks hcs hl hr
theorem shift_mend (h : Shift o d T (L.map (·.1)) (R.map (·.2)) (L.map (·.1)).length lo0 hi' a c w w') : MendAny o d lo hi T w w' := by
  obtain ⟨k', a', c', n1, n2, n3, ea, ec, hm, hn, hf, hia, hic, hfl⟩ := h
  have e1 : T.ks.set (L.map (·.1)).length k' = L.map (·.2) ++ k' :: R.map (·.1) := by
    rw [hks, List.set_append_right _ _ (by simp)]; simp
  have e2 : T.cs.map Tr.p = ((L.map fun y : Tr × ByteArray => y.1) ++ a' :: c' :: (R.map fun y : ByteArray × Tr => y.2)).map Tr.p := by rw [hcs]; simp [ea, ec]
  rw [e1, e2] at hn
  refine ⟨.mk T.p n1 n2 n3 ((L.map fun y : Tr × ByteArray => y.2) ++ k' :: (R.map fun y : ByteArray × Tr => y.1)) [] ((L.map fun y : Tr × ByteArray => y.1) ++ a' :: c' :: (R.map fun y : ByteArray × Tr => y.2)), rfl, ⟨hn, rfl, hm⟩, hf, Foc.back (L := L) (c := a') (R := (k', c') :: R) ⟨by simp, by simp, hl, hia, rfl, hi', hic, hr⟩, by rw [hks]; simp, by rw [hks]; simp, ?_⟩
  show ((L.map (·.1)) ++ a' :: c' :: (R.map (·.2))).flatMap (flat d) = T.cs.flatMap (flat d)
  rw [hcs]
  simp only [List.flatMap_append, List.flatMap_cons]
  rw [← List.append_assoc (flat d a'), hfl, List.append_assoc]
theorem joint_mend (h : Joint o d T (L.map (·.1)) (R.map (·.2)) (L.map (·.1)).length lo0 hi' a c w w') : MendAny o d lo hi T w w' := by
  obtain ⟨ab, n1, n2, n3, ea, hm, hn, hf, hia, hfl⟩ := h
  have e1 : T.ks.eraseIdx (L.map (·.1)).length = L.map (·.2) ++ R.map (·.1) := by
    rw [hks, List.eraseIdx_append_of_length_le (by simp)]; simp
  rw [e1] at hn
  refine ⟨.mk T.p n1 n2 n3 ((L.map fun y : Tr × ByteArray => y.2) ++ (R.map fun y : ByteArray × Tr => y.1)) [] ((L.map fun y : Tr × ByteArray => y.1) ++ ab :: (R.map fun y : ByteArray × Tr => y.2)), rfl, ⟨hn, rfl, hm⟩, hf, Foc.back (L := L) (c := ab) (R := R) ⟨rfl, rfl, hl, hia, hr⟩, by rw [hks]; simp; omega, by rw [hks]; simp, ?_⟩
  show ((L.map (·.1)) ++ ab :: (R.map (·.2))).flatMap (flat d) = T.cs.flatMap (flat d)
  rw [hcs]
  simp only [List.flatMap_append, List.flatMap_cons]
  rw [hfl, List.append_assoc]
end
end Go.Proofs.Ytjoopjmcnkiieaa

/- mend, whatever the kid lacks. Conditions: the tree is there. -/
namespace Go.Proofs.Ytjoopjmcnkiieaa
open Go.RowKit Go.Lib
set_option linter.unusedSimpArgs false
set_option linter.unusedVariables false

theorem Fr.same {w W : World} (h : Same4 w W) {F : Nat → Nat} (h1 : ∀ k, F k ≤ 1) (h2 : ∀ k, w.heap.size ≤ k → F k = 0) : Fr F F w W := by
  obtain ⟨e1, e2, e3, e4⟩ := h
  exact ⟨e2.symm, e3.symm, e4.symm, by rw [e1]; exact Nat.le_refl _, fun k _ _ => by rw [e1], fun _ _ => Nat.le_refl _, h1, fun k hk => h2 k (by rw [e1]; exact hk)⟩
theorem mem_same {d : Nat} {w W : World} (h : Same4 w W) {t : Tr} (hm : mem d w t) (h1 : ∀ k, fp d t k ≤ 1) : mem d W t :=
  mem_frame hm (Fr.same h (F := fun _ => 0) (fun _ => by omega) (fun _ _ => rfl)) (fun k => by have := h1 k; omega)
theorem keys_cell {d : Nat} {w : World} {t : Tr} (hm : mem d w t) : ∃ a c, w.cell? ⟨t.p, 0, none⟩ = some (.slice a t.ks.length c) := by
  obtain ⟨V, C, hn⟩ := mem_node hm
  obtain ⟨a1, c1, _, _, _, _, e, _⟩ := hn.forms
  exact ⟨a1, c1, e ▸ hn.cells.1⟩
theorem least_tree {o d tb : Nat} (ho2 : o ≤ 64) {a b : Nat} {lo hi : Option ByteArray} {w : World} {c : Tr} (hm : mem d w c) (h1 : ∀ k, fp d c k ≤ 1) (hv : inv o d a b lo hi c) (ho : w.cell? ⟨tb, 0, none⟩ = some (.int .i64 o)) (W : World) (hs : Same4 w W) :
    Calls Try.prog 48 #[.pointer (some ⟨tb, 0, none⟩), .pointer (some ⟨c.p, 0, none⟩)] W fun e w' => e = .returned (.int .i64 (lst o d)) ∧ W = w' := by
  have hmW := mem_same hs hm h1
  rw [hs.cell] at ho
  cases d with
  | zero => have := least_any hmW.1 ho ho2; exact this
  | succ d =>
    have := least_any hmW.1 ho ho2
    have hl := hv.1.len
    rw [show (c.cs.map Tr.p).isEmpty = false from by cases hc : c.cs with | nil => rw [hc] at hl; simp at hl | cons _ _ => rfl] at this
    exact this
end Go.Proofs.Ytjoopjmcnkiieaa

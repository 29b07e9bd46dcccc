/- The texts Tree5, Lendrl, Lendrf, Lendll of this seat, one behind the other. Conditions: each says its own. -/
import Derived.Test.YtjoopjmcnkiieaaM3

/- put below a tree's node. Conditions: the tree is there and as it must be. -/
namespace Go.Proofs.Ytjoopjmcnkiieaa
open Go.RowKit Go.Lib
set_option linter.unusedSimpArgs false
set_option linter.unusedVariables false

section
variable {f : Option ByteArray → Option ByteArray → Tr → Prop} {lo hi lo' hi' : Option ByteArray} {ks : List ByteArray} {cs : List Tr} {L : List (Tr × ByteArray)} {c : Tr} {R : List (ByteArray × Tr)}
theorem seg_last (h : seg f lo L lo') : (L = [] ∧ lo' = lo) ∨ ∃ x ∈ L.map (·.2), lo' = some x := by
  induction L generalizing lo with
  | nil => exact .inl ⟨rfl, h⟩
  | cons y r ih =>
    obtain ⟨h1, h2⟩ := h
    rcases ih h2 with ⟨rfl, rfl⟩ | ⟨x, hx, rfl⟩
    · exact .inr ⟨y.2, by simp, rfl⟩
    · exact .inr ⟨x, List.mem_cons_of_mem _ hx, rfl⟩
theorem rseg_first (h : rseg f hi' R hi) : (R = [] ∧ hi' = hi) ∨ ∃ x ∈ R.map (·.1), hi' = some x := by
  cases R with
  | nil => exact .inl ⟨rfl, h⟩
  | cons y r => exact .inr ⟨y.1, by simp, h.1⟩
/-- The key belongs to the kid. -/
theorem Foc.child (hF : Foc f lo hi ks cs L c R lo' hi') {key : ByteArray} (hcp : ChildP ks key L.length) (hin : inR lo hi key) : inR lo' hi' key := by
  obtain ⟨h1, h2, h3⟩ := hcp
  have hks := hF.ks
  refine ⟨fun l hl => ?_, fun h hh => ?_⟩
  · rcases seg_last hF.l with ⟨_, rfl⟩ | ⟨x, hx, rfl⟩
    · exact hin.1 l hl
    · injection hl with hl
      subst hl
      obtain ⟨j, hj⟩ := List.mem_iff_getElem?.1 hx
      have hjl := (List.getElem?_eq_some_iff.1 hj).1
      rw [List.length_map] at hjl
      exact h2 j x hjl (by rw [hks, List.getElem?_append_left (by simpa using hjl)]; exact hj)
  · rcases rseg_first hF.r with ⟨_, rfl⟩ | ⟨x, hx, rfl⟩
    · exact hin.2 h hh
    · injection hh with hh
      subst hh
      obtain ⟨j, hj⟩ := List.mem_iff_getElem?.1 hx
      exact h3 (L.length + j) x (by omega) (by rw [hks, List.getElem?_append_right (by simp)]; simpa using hj)
theorem Foc.kid (hF : Foc f lo hi ks cs L c R lo' hi') : cs[L.length]? = some c := by
  rw [hF.cs, List.getElem?_append_right (by simp)]
  simp
end
/-- A kid makes room for others. -/
theorem swap {d : Nat} {w w2 : World} {t c : Tr} {A B M : List Tr} (hm : mem (d + 1) w t) (hcs : t.cs = A ++ c :: B) (h1 : ∀ k, fp (d + 1) t k ≤ 1) (hf : Fr (fp d c) (fpL (fp d) M) w w2) (hM : ∀ y ∈ M, mem d w2 y) :
    NodeAt w2 t.p t.v1 t.v2 t.v3 t.ks [] (t.cs.map Tr.p) ∧ (∀ y ∈ A ++ M ++ B, mem d w2 y) ∧ Fr (fp (d + 1) t) (fun k => t.ow k + fpL (fp d) (A ++ M ++ B) k) w w2 := by
  have h2 : ∀ k, t.ow k + (fpL (fp d) A k + (fp d c k + fpL (fp d) B k)) ≤ 1 := fun k => by
    have := h1 k
    simp only [fp, hcs, fpL_append, fpL] at this
    omega
  have hz : ∀ k, w.heap.size ≤ k → t.ow k + (fpL (fp d) A k + (fp d c k + fpL (fp d) B k)) = 0 := fun k hk => by
    have := mem_hi hm k hk
    simp only [fp, hcs, fpL_append, fpL] at this
    omega
  refine ⟨hm.1.frame hf (fun k => by have := h2 k; unfold Tr.ow at this; omega), fun y hy => ?_, ?_⟩
  · rcases List.mem_append.1 hy with hy | hy
    · rcases List.mem_append.1 hy with hy | hy
      · exact mem_frame (hm.2.2 y (by rw [hcs]; exact List.mem_append_left _ hy)) hf (fun k => by have := h2 k; have := fpL_mem (f := fp d) hy k; omega)
      · exact hM y hy
    · exact mem_frame (hm.2.2 y (by rw [hcs]; exact List.mem_append_right _ (List.mem_cons_of_mem _ hy))) hf (fun k => by have := h2 k; have := fpL_mem (f := fp d) hy k; omega)
  · refine (hf.frame (fun k => t.ow k + (fpL (fp d) A k + fpL (fp d) B k)) (fun k => by have := h2 k; omega) (fun k hk => by have := hz k hk; omega)).congr (fun k => ?_) (fun k => ?_)
    · simp only [fp, hcs, fpL_append, fpL]; omega
    · simp only [fpL_append]; omega
/-- The node itself is written anew. -/
theorem renew {d : Nat} {w w2 w3 : World} {F0 : Nat → Nat} {o1 o2 : Nat → Nat} {l : List Tr} (hl : ∀ y ∈ l, mem d w2 y) (h0 : Fr F0 (fun k => o1 k + fpL (fp d) l k) w w2) (hf : Fr o1 o2 w2 w3) :
    (∀ y ∈ l, mem d w3 y) ∧ Fr F0 (fun k => o2 k + fpL (fp d) l k) w w3 := by
  have h2 := h0.one
  exact ⟨fun y hy => mem_frame (hl y hy) hf (fun k => by have := h2 k; have := fpL_mem (f := fp d) hy k; omega), h0.trans (hf.frame _ h2 (fun k hk => by have := h0.hi k hk; omega))⟩
theorem Fr.cell {F F' : Nat → Nat} {w w' : World} (h : Fr F F' w w') {a : Addr} {v : Value} (hc : w.cell? a = some v) (h0 : F a.block = 0) : w'.cell? a = some v :=
  (World.cell?_of_block (h.block _ (World.block_lt_of_cell? w a hc) h0)).trans hc
theorem insAt_mid {α : Type} {A B : List α} {n : Nat} {x : α} (h : A.length = n) : insAt (A ++ B) n x = A ++ x :: B := by
  subst h
  simp [insAt]
/-- What put makes of a tree. -/
def PutAny (o d a b : Nat) (lo hi : Option ByteArray) (t : Tr) (key : ByteArray) (x : Int) (w : World) (w' : World) : Prop :=
  ∃ t', t'.p = t.p ∧ mem d w' t' ∧ Fr (fp d t) (fp d t') w w' ∧ inv o d a (b + 1) lo hi t' ∧ flat d t' = insF key x (flat d t)
theorem put_any {o tb : Nat} (ho3 : 3 ≤ o) (ho2 : o ≤ 64) {key : ByteArray} {x : Int} : ∀ {d a b : Nat} {lo hi : Option ByteArray} {w : World} {t : Tr}, mem d w t → (∀ k, fp d t k ≤ 1) → fp d t tb = 0 → inv o d a b lo hi t → b ≤ o → inR lo hi key → w.cell? ⟨tb, 0, none⟩ = some (.int .i64 o) →
    Calls Try.prog 30 #[.pointer (some ⟨tb, 0, none⟩), .pointer (some ⟨t.p, 0, none⟩), .string key, .int .i64 x] w fun e w' => e = .returned (.bool (hasF key (flat d t))) ∧ PutAny o d a b lo hi t key x w w' := by
  intro d
  induction d with
  | zero =>
    intro a b lo hi w t hm h1 htb hv hbo hin ho
    obtain ⟨hvs, hso, hks, hlh, ha, hb⟩ := hv
    refine (put_leaf hm.1 h1 hso (by omega) hvs key x).mono ?_
    rintro e w' ⟨r, v1', v2', hr, hlo, hhi, rfl, hf, hn⟩
    refine ⟨by rw [show flat 0 t = t.ks.zip t.vs from rfl, zip_has hso hr hlo hhi hvs], ?_⟩
    by_cases h : t.ks[r]? = some key
    · rw [if_pos h] at hn
      exact ⟨.mk t.p v1' v2' t.v3 t.ks (t.vs.set r x) [], rfl, ⟨hn, rfl⟩, hf, ⟨by simp [hvs], hso, hks, hlh, ha, by simp; omega⟩, (zip_set hso hr hlo hhi hvs h).symm⟩
    · rw [if_neg h] at hn
      refine ⟨.mk t.p v1' v2' t.v3 (insAt t.ks r key) (insAt t.vs r x) [], rfl, ⟨hn, rfl⟩, hf, ⟨?_, sorted_ins hso hr hlo hhi h, fun k hk => ?_, hlh, ?_, ?_⟩, (zip_ins hso hr hlo hhi hvs h).symm⟩
      · simp only [Tr.mk_ks, Tr.mk_vs]; rw [insAt_len _ hr, insAt_len _ (by omega), hvs]
      · rcases mem_insAt hk with rfl | hk
        · exact hin
        · exact hks k hk
      · simp only [Tr.mk_ks]; rw [insAt_len _ hr]; omega
      · simp only [Tr.mk_ks]; rw [insAt_len _ hr]; omega
  | succ d ih =>
    intro a b lo hi w t hm h1 htb hv hbo hin ho
    have hsz := inv_len hv
    have hfr := hv.1
    refine (put_fork (R := fun was w' => was = hasF key (flat (d + 1) t) ∧ PutAny o (d + 1) a b lo hi t key x w w') hm.1 (fun k => by have := h1 k; have := fp_ow (d + 1) t k; unfold Tr.ow at this; omega) (inv_sorted hv) (by omega) (by rw [List.length_map]; exact hfr.len) (fun i hcp => ?_)).mono ?_
    · obtain ⟨L, c, R, lo', hi', hL, hF⟩ := hfr.focus i hcp.1
      subst hL
      have hcs := hF.cs
      have hin' := hF.child hcp hin
      have hcm : c ∈ t.cs := by rw [hcs]; simp
      have h2 : ∀ k, t.ow k + fp d c k ≤ 1 := fun k => by have h3 := h1 k; have h4 := fpL_mem (f := fp d) hcm k; simp only [fp] at h3; omega
      have hctb : fp d c tb = 0 := by have := fpL_mem (f := fp d) hcm tb; simp only [fp] at htb; omega
      have hbB : ∀ lo hi c, inv o d (lst o d) o lo hi c → ltB lo hi := fun _ _ _ h => inv_ltB h
      have hgG : ∀ lo hi c, inv o d (lst o d) o lo hi c → ∀ e ∈ flat d c, inR lo hi e.1 := fun _ _ _ h => (flat_facts h).1
      have hA : ∀ e ∈ (L.map (·.1)).flatMap (flat d), ltS e.1 key = true := fun e he => by
        obtain ⟨y, rfl, hy⟩ := seg_below hbB hgG hF.l e he
        exact ltS_lt_le hy (hin'.1 y rfl)
      have hBb : ∀ e ∈ (R.map (·.2)).flatMap (flat d), ltS key e.1 = true := fun e he => by
        obtain ⟨y, rfl, hy⟩ := rseg_above hbB hgG hF.r e he
        exact ltS_lt_le (hin'.2 y rfl) hy
      have hfl : flat (d + 1) t = (L.map (·.1)).flatMap (flat d) ++ flat d c ++ (R.map (·.2)).flatMap (flat d) := by
        show t.cs.flatMap (flat d) = _
        rw [hcs]; simp
      refine ⟨c.p, by rw [List.getElem?_map, hF.kid]; rfl, (ih (hm.2.2 c hcm) (fun k => by have := h2 k; omega) hctb hF.c (Nat.le_refl _) hin' ho).mono ?_⟩
      rintro e w1 ⟨rfl, c1, hp1, hm1, hf1, hi1, hfl1⟩
      obtain ⟨hn1, _, _⟩ := swap (M := [c1]) hm hcs h1 (hf1.congr (fun _ => rfl) (fun k => by simp [fpL])) (fun y hy => by rw [List.mem_singleton.1 hy]; exact hm1)
      refine ⟨_, rfl, hn1, ?_⟩
      rw [← hp1]
      refine (split_any ho3 ho2 hm1 hf1.one hi1 (hf1.cell ho hctb)).mono ?_
      rintro e w2 (⟨hsm, rfl, hbel⟩ | ⟨hlen, q, key', c2, c3, rfl, hm2, hm3, hp2, hq, hf2, hi2, hi3, hfl2⟩)
      · refine .inl ⟨rfl, by rw [hfl, hasF_mid hA hBb], ?_⟩
        have hfb := Fr.of_below hbel hf1.one (fun k hk => hf1.hi k hk)
        have hf12 := hf1.trans hfb
        have hm1' := mem_frame hm1 (Fr.of_below (F := fun _ => 0) hbel (fun _ => by omega) (fun _ _ => rfl)) (fun k => by have := hf1.one k; omega)
        obtain ⟨hn2, hk2, hfr2⟩ := swap (M := [c1]) hm hcs h1 (hf12.congr (fun _ => rfl) (fun k => by simp [fpL])) (fun y hy => by rw [List.mem_singleton.1 hy]; exact hm1')
        refine ⟨.mk t.p t.v1 t.v2 t.v3 t.ks [] ((L.map fun y : Tr × ByteArray => y.1) ++ [c1] ++ (R.map fun y : ByteArray × Tr => y.2)), rfl, ⟨?_, rfl, hk2⟩, hfr2, ⟨Foc.back (L := L) (c := c1) (R := R) ⟨hF.ks, by simp, hF.l, inv_size hi1 (inv_len hi1).1 hsm, hF.r⟩, hsz.1, by simp; omega⟩, ?_⟩
        · have e1 : ((L.map fun y : Tr × ByteArray => y.1) ++ [c1] ++ (R.map fun y : ByteArray × Tr => y.2)).map Tr.p = t.cs.map Tr.p := by rw [hcs]; simp [hp1]
          simp only [Tr.mk_p, Tr.mk_v1, Tr.mk_v2, Tr.mk_v3, Tr.mk_ks, Tr.mk_cs]
          rw [e1]; exact hn2
        · rw [hfl, insF_mid hA hBb, ← hfl1]
          show ((L.map (·.1)) ++ [c1] ++ (R.map (·.2))).flatMap (flat d) = _
          simp
      · have hf12 := hf1.trans hf2
        obtain ⟨hn2, hk2, hfr2⟩ := swap (M := [c2, c3]) hm hcs h1 (hf12.congr (fun _ => rfl) (fun k => by simp [fpL])) (fun y hy => by
          rcases List.mem_cons.1 hy with rfl | hy
          · exact hm2
          · rw [List.mem_singleton.1 hy]; exact hm3)
        refine .inr ⟨q, key', rfl, hn2, fun w3 v1' v3' hn3 hf3 => ⟨by rw [hfl, hasF_mid hA hBb], ?_⟩⟩
        obtain ⟨hk3, hfr3⟩ := renew hk2 hfr2 hf3
        have e1 : insAt t.ks L.length key' = (L.map fun y : Tr × ByteArray => y.2) ++ key' :: (R.map fun y : ByteArray × Tr => y.1) := by rw [hF.ks]; exact insAt_mid (by simp)
        have e2 : insAt (t.cs.map Tr.p) (L.length + 1) q = ((L.map fun y : Tr × ByteArray => y.1) ++ [c2, c3] ++ (R.map fun y : ByteArray × Tr => y.2)).map Tr.p := by
          rw [hcs, show ((L.map fun y : Tr × ByteArray => y.1) ++ c :: (R.map fun y : ByteArray × Tr => y.2)).map Tr.p = ((L.map fun y : Tr × ByteArray => y.1) ++ [c]).map Tr.p ++ (R.map fun y : ByteArray × Tr => y.2).map Tr.p from by simp, insAt_mid (by simp)]
          simp [hp2, hp1, hq]
        rw [e1, e2] at hn3
        refine ⟨.mk t.p v1' t.v2 v3' ((L.map fun y : Tr × ByteArray => y.2) ++ key' :: (R.map fun y : ByteArray × Tr => y.1)) [] ((L.map fun y : Tr × ByteArray => y.1) ++ [c2, c3] ++ (R.map fun y : ByteArray × Tr => y.2)), rfl, ⟨hn3, rfl, hk3⟩, hfr3, ⟨Foc.back (L := L) (c := c2) (R := (key', c3) :: R) ⟨by simp, by simp, hF.l, hi2, rfl, hi', hi3, hF.r⟩, ?_, ?_⟩, ?_⟩
        · have := hsz.1; rw [hF.ks] at this; simp at this ⊢; omega
        · have := hsz.2; rw [hF.ks] at this; simp at this ⊢; omega
        · rw [hfl, insF_mid hA hBb, ← hfl1, ← hfl2]
          show ((L.map (·.1)) ++ [c2, c3] ++ (R.map (·.2))).flatMap (flat d) = _
          simp
    · rintro e w' ⟨was, rfl, rfl, h⟩
      exact ⟨rfl, h⟩
end Go.Proofs.Ytjoopjmcnkiieaa

/- lend: the left neighbour lends its last key, both are leaves. Conditions: the three nodes are there, apart. -/
namespace Go.Proofs.Ytjoopjmcnkiieaa
open Go.RowKit Go.Lib
set_option linter.unusedSimpArgs false
set_option linter.unusedVariables false

set_option maxRecDepth 100000 in
set_option maxHeartbeats 32000000 in
theorem lend_rl {w : World} {pn pa pb f t kk : Nat} {n1 n2 n3 a1 a2 a3 b1 b2 b3 : Value} {Kn Ka Kb : List ByteArray} {Vn Va Vb : List Int} {Cn Ca Cb : List Nat} {x : ByteArray} {y : Int}
    (hn : NodeAt w pn n1 n2 n3 Kn Vn Cn) (ha : NodeAt w pa a1 a2 a3 Ka Va Ca) (hb : NodeAt w pb b1 b2 b3 Kb Vb Cb) (hone : ∀ k, ow pn n1 n2 n3 k + ow pa a1 a2 a3 k + ow pb b1 b2 b3 k ≤ 1)
    (hf : Cn[f]? = some pa) (ht : Cn[t]? = some pb) (hsz : Kn.length ≤ 1000 ∧ Cn.length ≤ 1000 ∧ Ka.length ≤ 1000 ∧ Kb.length ≤ 1000 ∧ Cb.length ≤ 1000 ∧ Vb.length ≤ 1000 ∧ Ca.length ≤ 1000 ∧ Va.length ≤ 1000) (hft : f < t) (hfn : f < Kn.length) (hA : Ka.length = kk + 1) (hVA : Va.length = kk + 1) (hCA : Ca = []) (hx : Ka[kk]? = some x) (hy : Va[kk]? = some y) :
    Calls Try.prog 62 #[.pointer (some ⟨pn, 0, none⟩), .int .i64 f, .int .i64 t] w (Lend3 pn pa pb n1 n2 n3 a1 a2 a3 b1 b2 b3 (Kn.set f x) Vn Cn (Ka.take kk) (Va.take kk) Ca (insAt Kb 0 x) (insAt Vb 0 y) Cb w) := by
  obtain ⟨an1, cn1, an2, cn2, an3, cn3, rfl, rfl, rfl, ln1, ln2, ln3, mn1, mn2, mn3⟩ := hn.forms
  obtain ⟨aa1, ca1, aa2, ca2, aa3, ca3, rfl, rfl, rfl, la1, la2, la3, ma1, ma2, ma3⟩ := ha.forms
  obtain ⟨ab1, cb1, ab2, cb2, ab3, cb3, rfl, rfl, rfl, lb1, lb2, lb3, mb1, mb2, mb3⟩ := hb.forms
  have T0 := Tri.start hn ha hb hone
  obtain ⟨g3, rfl, kf, _⟩ := hn.kid hf
  obtain ⟨g3', e3, kt, _⟩ := hn.kid ht
  injection e3 with e3
  injection e3 with e3 _
  subst e3
  have hfl := (List.getElem?_eq_some_iff.1 hf).1
  have htl := (List.getElem?_eq_some_iff.1 ht).1
  obtain ⟨ga, rfl, kx, _⟩ := ha.key hx
  obtain ⟨ga2, rfl, ky, _⟩ := ha.num hy
  obtain ⟨z, hz⟩ : ∃ z, Kn[f]? = some z := get_some hfn
  obtain ⟨gn, rfl, kz, fz⟩ := hn.key hz
  obtain ⟨Q, hQ⟩ : ∃ Q, Lend3 pn pa pb (.slice (some ⟨gn, 0, none⟩) Kn.length cn1) (.slice an2 Vn.length cn2) (.slice (some ⟨g3, 0, none⟩) Cn.length cn3) (.slice (some ⟨ga, 0, none⟩) Ka.length ca1) (.slice (some ⟨ga2, 0, none⟩) Va.length ca2) (.slice aa3 Ca.length ca3) (.slice ab1 Kb.length cb1) (.slice ab2 Vb.length cb2) (.slice ab3 Cb.length cb3) (Kn.set f x) Vn Cn (Ka.take kk) (Va.take kk) Ca (insAt Kb 0 x) (insAt Vb 0 y) Cb w = Q := ⟨_, rfl⟩
  have HQ := Lib.hid hQ
  rw [hQ]
  rw [hA] at T0 la1 hsz
  rw [hVA] at T0 la2 hsz
  generalize ekn : Kn.length = kn at *
  have Hkn := Lib.hid ekn
  clear ekn
  generalize evn : Vn.length = vn at *
  have Hvn := Lib.hid evn
  clear evn
  generalize ecnl : Cn.length = cnl at *
  have Hcnl := Lib.hid ecnl
  clear ecnl
  generalize ecal : Ca.length = cal at *
  have Hcal := Lib.hid ecal
  clear ecal
  generalize ekb : Kb.length = kb at *
  have Hkb := Lib.hid ekb
  clear ekb
  generalize evb : Vb.length = vb at *
  have Hvb := Lib.hid evb
  clear evb
  generalize ecbl : Cb.length = cbl at *
  have Hcbl := Lib.hid ecbl
  clear ecbl
  have hfl' : (f : Int) < cnl := by omega
  have htl' : (t : Int) < cnl := by omega
  have hf0 : (0 : Int) ≤ f := by omega
  have ht0 : (0 : Int) ≤ t := by omega
  obtain ⟨dn0, dn1, dn2, fn0, fn1, fn2⟩ := T0.n.cells
  obtain ⟨da0, da1, da2, fa0, fa1, fa2⟩ := T0.a.cells
  obtain ⟨db0, db1, db2, fb0, fb1, fb2⟩ := T0.b.cells
  have TT := Lib.hid T0
  have HONE := Lib.hid T0.one
  clear hn ha hb hone hf ht hQ fn0 fn1 fn2 fa0 fa1 fa2 fb0 fb1 fb2 T0
  go_enter Try.func62, Try.ntmps62
  go_wp2_with fail
  have HA := Lib.hid hA
  have HVA := Lib.hid hVA
  have HX := Lib.hid hx
  have HZ := Lib.hid hz
  have HSZ : Hid (Kb.length ≤ 1000000 ∧ Vb.length ≤ 1000000) := Lib.hid (by have := Hkb.out; have := Hvb.out; omega)
  have hlpa := TT.out.a.owns
  have z1 : ow pb (.slice ab1 kb cb1) (.slice ab2 vb cb2) (.slice ab3 cbl cb3) pa = 0 := by have h1 := HONE.out pa; have h2 := hlpa.1; omega
  have z2 : ow pb (.slice ab1 kb cb1) (.slice ab2 vb cb2) (.slice ab3 cbl cb3) ga = 0 := by have h1 := HONE.out ga; have h2 := hlpa.2.1 ga rfl; omega
  have z3 : ow pb (.slice ab1 kb cb1) (.slice ab2 vb cb2) (.slice ab3 cbl cb3) ga2 = 0 := by have h1 := HONE.out ga2; have h2 := hlpa.2.2.1 ga2 rfl; omega
  have HLF := Lib.hid (show Calls Try.prog 38 #[.pointer (some ⟨pa, 0, none⟩)] w.drew fun e w' => e = .returned (.bool true) ∧ w.drew = w' from by have := leaf_any TT.out.a.drew; rwa [hCA] at this)
  have HST := (St.start TT.out.b (fun k => by have := HONE.out k; omega)).drew.drew
  have hkk1 : kk ≤ ca1 := by omega
  have hkk2 : kk ≤ ca2 := by omega
  have hkk0 : (0 : Int) ≤ kk := by omega
  have hkk3 : (kk : Int) < (kk : Int) + 1 := by omega
  have hkk4 : (kk : Int) ≤ (kk : Int) + 1 := by omega
  have hfn' : (f : Int) < kn := by omega
  have ma1' : (ca1 : Int) ≤ 9223372036854775807 := by omega
  have ma2' : (ca2 : Int) ≤ 9223372036854775807 := by omega
  clear hA hVA hx hz hlpa hCA
  refine wp_region_noPanic ?_
  refine wp_region_J (S := fun u : World => u.cell? ⟨pn, 2, none⟩ = some (.slice (some ⟨g3, 0, none⟩) cnl cn3) ∧ u.cell? ⟨g3, f, none⟩ = some (.pointer (some ⟨pa, 0, none⟩)) ∧ u.cell? ⟨g3, t, none⟩ = some (.pointer (some ⟨pb, 0, none⟩))) (fun _ => false) (by kernel_rfl) ?_
  have hHeld : (fun u : World => u.cell? ⟨pn, 2, none⟩ = some (.slice (some ⟨g3, 0, none⟩) cnl cn3) ∧ u.cell? ⟨g3, f, none⟩ = some (.pointer (some ⟨pa, 0, none⟩)) ∧ u.cell? ⟨g3, t, none⟩ = some (.pointer (some ⟨pb, 0, none⟩))) w.drew := ⟨dn2, kf, kt⟩
  refine wpAnyJ_take0 (i := 0) (v := ?_) rfl (by kernel_rfl) (by kernel_rfl) (by kernel_rfl) (fun _ _ _ h => h) (Or.inl ⟨by rfl, ?_⟩) ?_
  rotate_left
  focus ((intro w hSw; clear hSw; go_simp); try with_reducible rfl)
  (try simp only [Act.put, List.getElem_toArray, List.getElem_cons_zero, List.getElem_cons_succ, List.setIfInBounds_toArray, List.set_cons_zero, List.set_cons_succ])
  refine wpAnyJ_take0 (i := 1) (v := ?_) rfl (by kernel_rfl) (by kernel_rfl) (by kernel_rfl) (fun _ _ _ h => h) (Or.inl ⟨by rfl, ?_⟩) ?_
  rotate_left
  focus ((intro w hSw; clear hSw; go_simp); try with_reducible rfl)
  (try simp only [Act.put, List.getElem_toArray, List.getElem_cons_zero, List.getElem_cons_succ, List.setIfInBounds_toArray, List.set_cons_zero, List.set_cons_succ])
  refine wpAnyJ_take0 (i := 2) (v := ?_) rfl (by kernel_rfl) (by kernel_rfl) (by kernel_rfl) (fun _ _ _ h => h) (Or.inl ⟨by rfl, ?_⟩) ?_
  rotate_left
  focus ((intro w hSw; clear hSw; go_simp); try with_reducible rfl)
  (try simp only [Act.put, List.getElem_toArray, List.getElem_cons_zero, List.getElem_cons_succ, List.setIfInBounds_toArray, List.set_cons_zero, List.set_cons_succ])
  refine wpAnyJ_take (i := 3) (v := ?_) rfl (by kernel_rfl) (by kernel_rfl) (by kernel_rfl) (by kernel_rfl) (fun _ _ _ h => h) (Or.inl ⟨by rfl, ?_⟩) (by assumption) ?_
  rotate_left
  focus ((intro w hSw; (try dsimp only at hSw); go_simp); try with_reducible rfl)
  (try simp only [Act.put, List.getElem_toArray, List.getElem_cons_zero, List.getElem_cons_succ, List.setIfInBounds_toArray, List.set_cons_zero, List.set_cons_succ])
  refine wpAnyJ_take0 (i := 4) (v := ?_) rfl (by kernel_rfl) (by kernel_rfl) (by kernel_rfl) (fun _ _ _ h => h) (Or.inl ⟨by rfl, ?_⟩) ?_
  rotate_left
  focus ((intro w hSw; clear hSw; go_simp); try with_reducible rfl)
  (try simp only [Act.put, List.getElem_toArray, List.getElem_cons_zero, List.getElem_cons_succ, List.setIfInBounds_toArray, List.set_cons_zero, List.set_cons_succ])
  refine wpAnyJ_take0 (i := 5) (v := ?_) rfl (by kernel_rfl) (by kernel_rfl) (by kernel_rfl) (fun _ _ _ h => h) (Or.inl ⟨by rfl, ?_⟩) ?_
  rotate_left
  focus ((intro w hSw; clear hSw; go_simp); try with_reducible rfl)
  (try simp only [Act.put, List.getElem_toArray, List.getElem_cons_zero, List.getElem_cons_succ, List.setIfInBounds_toArray, List.set_cons_zero, List.set_cons_succ])
  refine wpAnyJ_take (i := 6) (v := ?_) rfl (by kernel_rfl) (by kernel_rfl) (by kernel_rfl) (by kernel_rfl) (fun _ _ _ h => h) (Or.inl ⟨by rfl, ?_⟩) (by assumption) ?_
  rotate_left
  focus ((intro w hSw; (try dsimp only at hSw); go_simp); try with_reducible rfl)
  (try simp only [Act.put, List.getElem_toArray, List.getElem_cons_zero, List.getElem_cons_succ, List.setIfInBounds_toArray, List.set_cons_zero, List.set_cons_succ])
  refine wpAnyJ_take0 (i := 7) (v := ?_) rfl (by kernel_rfl) (by kernel_rfl) (by kernel_rfl) (fun _ _ _ h => h) (Or.inl ⟨by rfl, ?_⟩) ?_
  rotate_left
  focus ((intro w hSw; clear hSw; go_simp); try with_reducible rfl)
  (try simp only [Act.put, List.getElem_toArray, List.getElem_cons_zero, List.getElem_cons_succ, List.setIfInBounds_toArray, List.set_cons_zero, List.set_cons_succ])
  refine wpAnyJ_take0 (i := 8) (v := ?_) rfl (by kernel_rfl) (by kernel_rfl) (by kernel_rfl) (fun _ _ _ h => h) (Or.inl ⟨by rfl, ?_⟩) ?_
  rotate_left
  focus ((intro w hSw; clear hSw; go_simp); try with_reducible rfl)
  (try simp only [Act.put, List.getElem_toArray, List.getElem_cons_zero, List.getElem_cons_succ, List.setIfInBounds_toArray, List.set_cons_zero, List.set_cons_succ])
  refine wpAnyJ_take0 (i := 9) (v := ?_) rfl (by kernel_rfl) (by kernel_rfl) (by kernel_rfl) (fun _ _ _ h => h) (Or.inl ⟨by rfl, ?_⟩) ?_
  rotate_left
  focus ((intro w hSw; clear hSw; go_simp); try with_reducible rfl)
  (try simp only [Act.put, List.getElem_toArray, List.getElem_cons_zero, List.getElem_cons_succ, List.setIfInBounds_toArray, List.set_cons_zero, List.set_cons_succ])
  refine wpAnyJ_take (i := 10) (v := ?_) rfl (by kernel_rfl) (by kernel_rfl) (by kernel_rfl) (by kernel_rfl) (fun _ _ _ h => h) (Or.inl ⟨by rfl, ?_⟩) (by assumption) ?_
  rotate_left
  focus ((intro w hSw; (try dsimp only at hSw); go_simp); try with_reducible rfl)
  (try simp only [Act.put, List.getElem_toArray, List.getElem_cons_zero, List.getElem_cons_succ, List.setIfInBounds_toArray, List.set_cons_zero, List.set_cons_succ])
  refine wpAnyJ_take0 (i := 11) (v := ?_) rfl (by kernel_rfl) (by kernel_rfl) (by kernel_rfl) (fun _ _ _ h => h) (Or.inl ⟨by rfl, ?_⟩) ?_
  rotate_left
  focus ((intro w hSw; clear hSw; go_simp); try with_reducible rfl)
  (try simp only [Act.put, List.getElem_toArray, List.getElem_cons_zero, List.getElem_cons_succ, List.setIfInBounds_toArray, List.set_cons_zero, List.set_cons_succ])
  refine wpAnyJ_take0 (i := 12) (v := ?_) rfl (by kernel_rfl) (by kernel_rfl) (by kernel_rfl) (fun _ _ _ h => h) (Or.inl ⟨by rfl, ?_⟩) ?_
  rotate_left
  focus ((intro w hSw; clear hSw; go_simp); try with_reducible rfl)
  (try simp only [Act.put, List.getElem_toArray, List.getElem_cons_zero, List.getElem_cons_succ, List.setIfInBounds_toArray, List.set_cons_zero, List.set_cons_succ])
  refine wpAnyJ_take (i := 13) (v := ?_) rfl (by kernel_rfl) (by kernel_rfl) (by kernel_rfl) (by kernel_rfl) (fun _ _ _ h => h) (Or.inl ⟨by rfl, ?_⟩) (by assumption) ?_
  rotate_left
  focus ((intro w hSw; (try dsimp only at hSw); go_simp); try with_reducible rfl)
  (try simp only [Act.put, List.getElem_toArray, List.getElem_cons_zero, List.getElem_cons_succ, List.setIfInBounds_toArray, List.set_cons_zero, List.set_cons_succ])
  refine wpAnyJ_take0 (i := 14) (v := ?_) rfl (by kernel_rfl) (by kernel_rfl) (by kernel_rfl) (fun _ _ _ h => h) (Or.inl ⟨by rfl, ?_⟩) ?_
  rotate_left
  focus ((intro w hSw; clear hSw; go_simp); try with_reducible rfl)
  (try simp only [Act.put, List.getElem_toArray, List.getElem_cons_zero, List.getElem_cons_succ, List.setIfInBounds_toArray, List.set_cons_zero, List.set_cons_succ])
  refine wpAnyJ_take0 (i := 15) (v := ?_) rfl (by kernel_rfl) (by kernel_rfl) (by kernel_rfl) (fun _ _ _ h => h) (Or.inl ⟨by rfl, ?_⟩) ?_
  rotate_left
  focus ((intro w hSw; clear hSw; go_simp); try with_reducible rfl)
  (try simp only [Act.put, List.getElem_toArray, List.getElem_cons_zero, List.getElem_cons_succ, List.setIfInBounds_toArray, List.set_cons_zero, List.set_cons_succ])
  refine wpAnyJ_done (by kernel_rfl) ?_ _
  refine NoPanic.normal ?_
  go_wp2_with fail
  refine HLF.out.mono ?_
  rintro e w' ⟨rfl, rfl⟩
  clear HLF dn0 dn1 dn2 db0 db1 db2 kf kt
  go_wp2_with fail
  refine wp_region_noPanic ?_
  refine wp_region_J (S := fun u : World => u.cell? ⟨pb, 0, none⟩ = some (.slice ab1 kb cb1) ∧ u.cell? ⟨pb, 1, none⟩ = some (.slice ab2 vb cb2) ∧ u.cell? ⟨pa, 0, none⟩ = some (.slice (some ⟨ga, 0, none⟩) (kk + 1) ca1) ∧ u.cell? ⟨pa, 1, none⟩ = some (.slice (some ⟨ga2, 0, none⟩) (kk + 1) ca2) ∧ u.cell? ⟨ga, kk, none⟩ = some (.string x) ∧ u.cell? ⟨ga2, kk, none⟩ = some (.int .i64 y)) (fun j => j == 30 || j == 33) (by kernel_rfl) ?_
  obtain ⟨u0, hu0⟩ : ∃ u, w.drew.drew = u := ⟨_, rfl⟩
  rw [hu0] at HST ⊢
  clear hu0
  have hHeld : (fun u : World => u.cell? ⟨pb, 0, none⟩ = some (.slice ab1 kb cb1) ∧ u.cell? ⟨pb, 1, none⟩ = some (.slice ab2 vb cb2) ∧ u.cell? ⟨pa, 0, none⟩ = some (.slice (some ⟨ga, 0, none⟩) (kk + 1) ca1) ∧ u.cell? ⟨pa, 1, none⟩ = some (.slice (some ⟨ga2, 0, none⟩) (kk + 1) ca2) ∧ u.cell? ⟨ga, kk, none⟩ = some (.string x) ∧ u.cell? ⟨ga2, kk, none⟩ = some (.int .i64 y)) u0 := ⟨HST.cell.1, HST.cell.2.1, HST.other da0 z1, HST.other da1 z1, HST.other kx z2, HST.other ky z3⟩
  refine wpAnyJ_take0 (i := 0) (v := ?_) rfl (by kernel_rfl) (by kernel_rfl) (by kernel_rfl) (fun _ _ _ h => h) (Or.inl ⟨by rfl, ?_⟩) ?_
  rotate_left
  focus ((intro w hSw; clear hSw; go_simp); try with_reducible rfl)
  (try simp only [Act.put, List.getElem_toArray, List.getElem_cons_zero, List.getElem_cons_succ, List.setIfInBounds_toArray, List.set_cons_zero, List.set_cons_succ])
  refine wpAnyJ_take0 (i := 1) (v := ?_) rfl (by kernel_rfl) (by kernel_rfl) (by kernel_rfl) (fun _ _ _ h => h) (Or.inl ⟨by rfl, ?_⟩) ?_
  rotate_left
  focus ((intro w hSw; clear hSw; go_simp); try with_reducible rfl)
  (try simp only [Act.put, List.getElem_toArray, List.getElem_cons_zero, List.getElem_cons_succ, List.setIfInBounds_toArray, List.set_cons_zero, List.set_cons_succ])
  refine wpAnyJ_take0 (i := 2) (v := ?_) rfl (by kernel_rfl) (by kernel_rfl) (by kernel_rfl) (fun _ _ _ h => h) (Or.inl ⟨by rfl, ?_⟩) ?_
  rotate_left
  focus ((intro w hSw; clear hSw; go_simp); try with_reducible rfl)
  (try simp only [Act.put, List.getElem_toArray, List.getElem_cons_zero, List.getElem_cons_succ, List.setIfInBounds_toArray, List.set_cons_zero, List.set_cons_succ])
  refine wpAnyJ_take0 (i := 3) (v := ?_) rfl (by kernel_rfl) (by kernel_rfl) (by kernel_rfl) (fun _ _ _ h => h) (Or.inl ⟨by rfl, ?_⟩) ?_
  rotate_left
  focus ((intro w hSw; clear hSw; go_simp); try with_reducible rfl)
  (try simp only [Act.put, List.getElem_toArray, List.getElem_cons_zero, List.getElem_cons_succ, List.setIfInBounds_toArray, List.set_cons_zero, List.set_cons_succ])
  refine wpAnyJ_take0 (i := 4) (v := ?_) rfl (by kernel_rfl) (by kernel_rfl) (by kernel_rfl) (fun _ _ _ h => h) (Or.inl ⟨by rfl, ?_⟩) ?_
  rotate_left
  focus ((intro w hSw; clear hSw; go_simp); try with_reducible rfl)
  (try simp only [Act.put, List.getElem_toArray, List.getElem_cons_zero, List.getElem_cons_succ, List.setIfInBounds_toArray, List.set_cons_zero, List.set_cons_succ])
  refine wpAnyJ_take (i := 5) (v := ?_) rfl (by kernel_rfl) (by kernel_rfl) (by kernel_rfl) (by kernel_rfl) (fun _ _ _ h => h) (Or.inl ⟨by rfl, ?_⟩) (by assumption) ?_
  rotate_left
  focus ((intro w hSw; (try dsimp only at hSw); go_simp); try with_reducible rfl)
  (try simp only [Act.put, List.getElem_toArray, List.getElem_cons_zero, List.getElem_cons_succ, List.setIfInBounds_toArray, List.set_cons_zero, List.set_cons_succ])
  refine wpAnyJ_take0 (i := 6) (v := ?_) rfl (by kernel_rfl) (by kernel_rfl) (by kernel_rfl) (fun _ _ _ h => h) (Or.inl ⟨by rfl, ?_⟩) ?_
  rotate_left
  focus ((intro w hSw; clear hSw; go_simp); try with_reducible rfl)
  (try simp only [Act.put, List.getElem_toArray, List.getElem_cons_zero, List.getElem_cons_succ, List.setIfInBounds_toArray, List.set_cons_zero, List.set_cons_succ])
  refine wpAnyJ_take0 (i := 7) (v := ?_) rfl (by kernel_rfl) (by kernel_rfl) (by kernel_rfl) (fun _ _ _ h => h) (Or.inl ⟨by rfl, ?_⟩) ?_
  rotate_left
  focus ((intro w hSw; clear hSw; go_simp); try with_reducible rfl)
  (try simp only [Act.put, List.getElem_toArray, List.getElem_cons_zero, List.getElem_cons_succ, List.setIfInBounds_toArray, List.set_cons_zero, List.set_cons_succ])
  refine wpAnyJ_take0 (i := 8) (v := ?_) rfl (by kernel_rfl) (by kernel_rfl) (by kernel_rfl) (fun _ _ _ h => h) (Or.inl ⟨by rfl, ?_⟩) ?_
  rotate_left
  focus ((intro w hSw; clear hSw; go_simp); try with_reducible rfl)
  (try simp only [Act.put, List.getElem_toArray, List.getElem_cons_zero, List.getElem_cons_succ, List.setIfInBounds_toArray, List.set_cons_zero, List.set_cons_succ])
  refine wpAnyJ_take (i := 9) (v := ?_) rfl (by kernel_rfl) (by kernel_rfl) (by kernel_rfl) (by kernel_rfl) (fun _ _ _ h => h) (Or.inl ⟨by rfl, ?_⟩) (by assumption) ?_
  rotate_left
  focus ((intro w hSw; (try dsimp only at hSw); go_simp); try with_reducible rfl)
  (try simp only [Act.put, List.getElem_toArray, List.getElem_cons_zero, List.getElem_cons_succ, List.setIfInBounds_toArray, List.set_cons_zero, List.set_cons_succ])
  refine wpAnyJ_take0 (i := 10) (v := ?_) rfl (by kernel_rfl) (by kernel_rfl) (by kernel_rfl) (fun _ _ _ h => h) (Or.inl ⟨by rfl, ?_⟩) ?_
  rotate_left
  focus ((intro w hSw; clear hSw; go_simp); try with_reducible rfl)
  (try simp only [Act.put, List.getElem_toArray, List.getElem_cons_zero, List.getElem_cons_succ, List.setIfInBounds_toArray, List.set_cons_zero, List.set_cons_succ])
  refine wpAnyJ_take0 (i := 11) (v := ?_) rfl (by kernel_rfl) (by kernel_rfl) (by kernel_rfl) (fun _ _ _ h => h) (Or.inl ⟨by rfl, ?_⟩) ?_
  rotate_left
  focus ((intro w hSw; clear hSw; go_simp); try with_reducible rfl)
  (try simp only [Act.put, List.getElem_toArray, List.getElem_cons_zero, List.getElem_cons_succ, List.setIfInBounds_toArray, List.set_cons_zero, List.set_cons_succ])
  refine wpAnyJ_take (i := 12) (v := ?_) rfl (by kernel_rfl) (by kernel_rfl) (by kernel_rfl) (by kernel_rfl) (fun _ _ _ h => h) (Or.inl ⟨by rfl, ?_⟩) (by assumption) ?_
  rotate_left
  focus ((intro w hSw; (try dsimp only at hSw); go_simp); try with_reducible rfl)
  (try simp only [Act.put, List.getElem_toArray, List.getElem_cons_zero, List.getElem_cons_succ, List.setIfInBounds_toArray, List.set_cons_zero, List.set_cons_succ])
  refine wpAnyJ_take0 (i := 15) (v := ?_) rfl (by kernel_rfl) (by kernel_rfl) (by kernel_rfl) (fun _ _ _ h => h) (Or.inl ⟨by rfl, ?_⟩) ?_
  rotate_left
  focus ((intro w hSw; clear hSw; go_simp); try with_reducible rfl)
  (try simp only [Act.put, List.getElem_toArray, List.getElem_cons_zero, List.getElem_cons_succ, List.setIfInBounds_toArray, List.set_cons_zero, List.set_cons_succ])
  refine wpAnyJ_take0 (i := 16) (v := ?_) rfl (by kernel_rfl) (by kernel_rfl) (by kernel_rfl) (fun _ _ _ h => h) (Or.inl ⟨by rfl, ?_⟩) ?_
  rotate_left
  focus ((intro w hSw; clear hSw; go_simp); try with_reducible rfl)
  (try simp only [Act.put, List.getElem_toArray, List.getElem_cons_zero, List.getElem_cons_succ, List.setIfInBounds_toArray, List.set_cons_zero, List.set_cons_succ])
  refine wpAnyJ_take0 (i := 17) (v := ?_) rfl (by kernel_rfl) (by kernel_rfl) (by kernel_rfl) (fun _ _ _ h => h) (Or.inl ⟨by rfl, ?_⟩) ?_
  rotate_left
  focus ((intro w hSw; clear hSw; go_simp); try with_reducible rfl)
  (try simp only [Act.put, List.getElem_toArray, List.getElem_cons_zero, List.getElem_cons_succ, List.setIfInBounds_toArray, List.set_cons_zero, List.set_cons_succ])
  refine wpAnyJ_take (i := 18) (v := ?_) rfl (by kernel_rfl) (by kernel_rfl) (by kernel_rfl) (by kernel_rfl) (fun _ _ _ h => h) (Or.inl ⟨by rfl, ?_⟩) (by assumption) ?_
  rotate_left
  focus ((intro w hSw; (try dsimp only at hSw); go_simp); try with_reducible rfl)
  (try simp only [Act.put, List.getElem_toArray, List.getElem_cons_zero, List.getElem_cons_succ, List.setIfInBounds_toArray, List.set_cons_zero, List.set_cons_succ])
  refine wpAnyJ_take0 (i := 19) (v := ?_) rfl (by kernel_rfl) (by kernel_rfl) (by kernel_rfl) (fun _ _ _ h => h) (Or.inl ⟨by rfl, ?_⟩) ?_
  rotate_left
  focus ((intro w hSw; clear hSw; go_simp); try with_reducible rfl)
  (try simp only [Act.put, List.getElem_toArray, List.getElem_cons_zero, List.getElem_cons_succ, List.setIfInBounds_toArray, List.set_cons_zero, List.set_cons_succ])
  refine wpAnyJ_take0 (i := 20) (v := ?_) rfl (by kernel_rfl) (by kernel_rfl) (by kernel_rfl) (fun _ _ _ h => h) (Or.inl ⟨by rfl, ?_⟩) ?_
  rotate_left
  focus ((intro w hSw; clear hSw; go_simp); try with_reducible rfl)
  (try simp only [Act.put, List.getElem_toArray, List.getElem_cons_zero, List.getElem_cons_succ, List.setIfInBounds_toArray, List.set_cons_zero, List.set_cons_succ])
  refine wpAnyJ_take0 (i := 21) (v := ?_) rfl (by kernel_rfl) (by kernel_rfl) (by kernel_rfl) (fun _ _ _ h => h) (Or.inl ⟨by rfl, ?_⟩) ?_
  rotate_left
  focus ((intro w hSw; clear hSw; go_simp); try with_reducible rfl)
  (try simp only [Act.put, List.getElem_toArray, List.getElem_cons_zero, List.getElem_cons_succ, List.setIfInBounds_toArray, List.set_cons_zero, List.set_cons_succ])
  refine wpAnyJ_take (i := 22) (v := ?_) rfl (by kernel_rfl) (by kernel_rfl) (by kernel_rfl) (by kernel_rfl) (fun _ _ _ h => h) (Or.inl ⟨by rfl, ?_⟩) (by assumption) ?_
  rotate_left
  focus ((intro w hSw; (try dsimp only at hSw); go_simp); try with_reducible rfl)
  (try simp only [Act.put, List.getElem_toArray, List.getElem_cons_zero, List.getElem_cons_succ, List.setIfInBounds_toArray, List.set_cons_zero, List.set_cons_succ])
  refine wpAnyJ_take0 (i := 23) (v := ?_) rfl (by kernel_rfl) (by kernel_rfl) (by kernel_rfl) (fun _ _ _ h => h) (Or.inl ⟨by rfl, ?_⟩) ?_
  rotate_left
  focus ((intro w hSw; clear hSw; go_simp); try with_reducible rfl)
  (try simp only [Act.put, List.getElem_toArray, List.getElem_cons_zero, List.getElem_cons_succ, List.setIfInBounds_toArray, List.set_cons_zero, List.set_cons_succ])
  refine wpAnyJ_take0 (i := 24) (v := ?_) rfl (by kernel_rfl) (by kernel_rfl) (by kernel_rfl) (fun _ _ _ h => h) (Or.inl ⟨by rfl, ?_⟩) ?_
  rotate_left
  focus ((intro w hSw; clear hSw; go_simp); try with_reducible rfl)
  (try simp only [Act.put, List.getElem_toArray, List.getElem_cons_zero, List.getElem_cons_succ, List.setIfInBounds_toArray, List.set_cons_zero, List.set_cons_succ])
  refine wpAnyJ_take (i := 25) (v := ?_) rfl (by kernel_rfl) (by kernel_rfl) (by kernel_rfl) (by kernel_rfl) (fun _ _ _ h => h) (Or.inl ⟨by rfl, ?_⟩) (by assumption) ?_
  rotate_left
  focus ((intro w hSw; (try dsimp only at hSw); go_simp); try with_reducible rfl)
  (try simp only [Act.put, List.getElem_toArray, List.getElem_cons_zero, List.getElem_cons_succ, List.setIfInBounds_toArray, List.set_cons_zero, List.set_cons_succ])
  refine wpAnyJ_ready (rs := [13, 26]) (by kernel_rfl) (by simp) ?_
  refine AllReadyJ.cons rfl (fun KK hKK => ?_) (AllReadyJ.cons rfl (fun KK hKK => ?_) AllReadyJ.nil)
  · go_simp
    replace HST := HST.alloc (.string x) 9
    have hH2 : (fun u : World => u.cell? ⟨pb, 0, none⟩ = some (.slice ab1 kb cb1) ∧ u.cell? ⟨pb, 1, none⟩ = some (.slice ab2 vb cb2) ∧ u.cell? ⟨pa, 0, none⟩ = some (.slice (some ⟨ga, 0, none⟩) (kk + 1) ca1) ∧ u.cell? ⟨pa, 1, none⟩ = some (.slice (some ⟨ga2, 0, none⟩) (kk + 1) ca2) ∧ u.cell? ⟨ga, kk, none⟩ = some (.string x) ∧ u.cell? ⟨ga2, kk, none⟩ = some (.int .i64 y)) (u0.alloc (.cells #[.string x] 9)) := ⟨HST.cell.1, HST.cell.2.1, HST.other da0 z1, HST.other da1 z1, HST.other kx z2, HST.other ky z3⟩
    refine hKK.out _ _ (fun _ _ => hH2) ?_
    clear hKK KK
    generalize u0.heap.size = vb1 at HST ⊢
    generalize u0.alloc (.cells #[.string x] 9) = u1 at HST hH2 ⊢
    clear hHeld
    have hHeld := hH2
    clear hH2
    clear u0
    revert u1
    intro u0 HST hHeld
    (try simp only [Act.put, List.getElem_toArray, List.getElem_cons_zero, List.getElem_cons_succ, List.setIfInBounds_toArray, List.set_cons_zero, List.set_cons_succ])
    refine wpAnyJ_ready (rs := [14, 26]) (by kernel_rfl) (by simp) ?_
    refine AllReadyJ.cons rfl (fun KK hKK => ?_) (AllReadyJ.cons rfl (fun KK hKK => ?_) AllReadyJ.nil)
    · go_simp
      go_at_call 42
      refine (HST.ins1 (vb := vb1) (x := x) (i := 0) (by simp) (Nat.zero_le _) HSZ.out.1).mono ?_
      rintro e u1 ⟨g1, c1, rfl, HST2⟩
      clear HST
      have HST := HST2
      clear HST2
      have hH2 : (fun u : World => u.cell? ⟨pb, 0, none⟩ = some (.slice ab1 kb cb1) ∧ u.cell? ⟨pb, 1, none⟩ = some (.slice ab2 vb cb2) ∧ u.cell? ⟨pa, 0, none⟩ = some (.slice (some ⟨ga, 0, none⟩) (kk + 1) ca1) ∧ u.cell? ⟨pa, 1, none⟩ = some (.slice (some ⟨ga2, 0, none⟩) (kk + 1) ca2) ∧ u.cell? ⟨ga, kk, none⟩ = some (.string x) ∧ u.cell? ⟨ga2, kk, none⟩ = some (.int .i64 y)) u1 := ⟨HST.cell.1, HST.cell.2.1, HST.other da0 z1, HST.other da1 z1, HST.other kx z2, HST.other ky z3⟩
      refine hKK.out _ _ (fun _ _ => hH2) ?_
      clear hKK KK
      clear hHeld
      have hHeld := hH2
      clear hH2 u0
      revert u1
      intro u0 HST hHeld
      (try simp only [Act.put, List.getElem_toArray, List.getElem_cons_zero, List.getElem_cons_succ, List.setIfInBounds_toArray, List.set_cons_zero, List.set_cons_succ])
      refine wpAnyJ_ready (rs := [26]) (by kernel_rfl) (by simp) ?_
      refine AllReadyJ.cons rfl (fun KK hKK => ?_) AllReadyJ.nil
      go_simp
      replace HST := HST.alloc (.int .i64 y) 2
      have hH2 : (fun u : World => u.cell? ⟨pb, 0, none⟩ = some (.slice ab1 kb cb1) ∧ u.cell? ⟨pb, 1, none⟩ = some (.slice ab2 vb cb2) ∧ u.cell? ⟨pa, 0, none⟩ = some (.slice (some ⟨ga, 0, none⟩) (kk + 1) ca1) ∧ u.cell? ⟨pa, 1, none⟩ = some (.slice (some ⟨ga2, 0, none⟩) (kk + 1) ca2) ∧ u.cell? ⟨ga, kk, none⟩ = some (.string x) ∧ u.cell? ⟨ga2, kk, none⟩ = some (.int .i64 y)) (u0.alloc (.cells #[.int .i64 y] 2)) := ⟨HST.cell.1, HST.cell.2.1, HST.other da0 z1, HST.other da1 z1, HST.other kx z2, HST.other ky z3⟩
      refine hKK.out _ _ (fun _ _ => hH2) ?_
      clear hKK KK
      generalize u0.heap.size = vb2 at HST ⊢
      generalize u0.alloc (.cells #[.int .i64 y] 2) = u1 at HST hH2 ⊢
      clear hHeld
      have hHeld := hH2
      clear hH2
      clear u0
      revert u1
      intro u0 HST hHeld
      (try simp only [Act.put, List.getElem_toArray, List.getElem_cons_zero, List.getElem_cons_succ, List.setIfInBounds_toArray, List.set_cons_zero, List.set_cons_succ])
      refine wpAnyJ_ready (rs := [27]) (by kernel_rfl) (by simp) ?_
      refine AllReadyJ.cons rfl (fun KK hKK => ?_) AllReadyJ.nil
      go_simp
      go_at_call 43
      refine (HST.ins2 (vb := vb2) (x := y) (i := 0) (by simp [numV]) (Nat.zero_le _) HSZ.out.2).mono ?_
      rintro e u1 ⟨g2, c2, rfl, HST2⟩
      clear HST
      have HST := HST2
      clear HST2
      have hH2 : (fun u : World => u.cell? ⟨pb, 0, none⟩ = some (.slice ab1 kb cb1) ∧ u.cell? ⟨pb, 1, none⟩ = some (.slice ab2 vb cb2) ∧ u.cell? ⟨pa, 0, none⟩ = some (.slice (some ⟨ga, 0, none⟩) (kk + 1) ca1) ∧ u.cell? ⟨pa, 1, none⟩ = some (.slice (some ⟨ga2, 0, none⟩) (kk + 1) ca2) ∧ u.cell? ⟨ga, kk, none⟩ = some (.string x) ∧ u.cell? ⟨ga2, kk, none⟩ = some (.int .i64 y)) u1 := ⟨HST.cell.1, HST.cell.2.1, HST.other da0 z1, HST.other da1 z1, HST.other kx z2, HST.other ky z3⟩
      refine hKK.out _ _ (fun _ _ => hH2) ?_
      clear hKK KK
      clear hHeld
      have hHeld := hH2
      clear hH2 u0
      revert u1
      intro u0 HST hHeld
      (try simp only [Act.put, List.getElem_toArray, List.getElem_cons_zero, List.getElem_cons_succ, List.setIfInBounds_toArray, List.set_cons_zero, List.set_cons_succ])
      refine wpAnyJ_take0 (i := 28) (v := ?_) rfl (by kernel_rfl) (by kernel_rfl) (by kernel_rfl) (fun _ _ _ h => h) (Or.inl ⟨by rfl, ?_⟩) ?_
      rotate_left
      focus ((intro w hSw; clear hSw; go_simp); try with_reducible rfl)
      (try simp only [Act.put, List.getElem_toArray, List.getElem_cons_zero, List.getElem_cons_succ, List.setIfInBounds_toArray, List.set_cons_zero, List.set_cons_succ])
      refine wpAnyJ_take0 (i := 29) (v := ?_) rfl (by kernel_rfl) (by kernel_rfl) (by kernel_rfl) (fun _ _ _ h => h) (Or.inl ⟨by rfl, ?_⟩) ?_
      rotate_left
      focus ((intro w hSw; clear hSw; go_simp); try with_reducible rfl)
      (try simp only [Act.put, List.getElem_toArray, List.getElem_cons_zero, List.getElem_cons_succ, List.setIfInBounds_toArray, List.set_cons_zero, List.set_cons_succ])
      refine wpAnyJ_ready (rs := [30]) (by kernel_rfl) (by simp) ?_
      refine AllReadyJ.cons rfl (fun KK hKK => ?_) AllReadyJ.nil
      have hz1 := HST.cell.2.2.2 0
      have hz2 := HST.cell.1
      go_simp
      clear hz1 hz2
      replace HST := HST.put0 (.slice (some ⟨g1, 0, none⟩) (kb + 1) c1)
      refine hKK.out _ _ (fun h => absurd h (by decide)) ?_
      clear hKK KK
      generalize u0.setCell ⟨pb, 0, none⟩ (.slice (some ⟨g1, 0, none⟩) (kb + 1) c1) = u1 at HST ⊢
      (try clear hHeld)
      clear u0
      revert u1
      intro u0 HST
      (try simp only [Act.put, List.getElem_toArray, List.getElem_cons_zero, List.getElem_cons_succ, List.setIfInBounds_toArray, List.set_cons_zero, List.set_cons_succ])
      refine wpAnyJ_take0 (i := 31) (v := ?_) rfl (by kernel_rfl) (by kernel_rfl) (by kernel_rfl) (fun _ _ _ h => h) (Or.inl ⟨by rfl, ?_⟩) ?_
      rotate_left
      focus ((intro w hSw; clear hSw; go_simp); try with_reducible rfl)
      (try simp only [Act.put, List.getElem_toArray, List.getElem_cons_zero, List.getElem_cons_succ, List.setIfInBounds_toArray, List.set_cons_zero, List.set_cons_succ])
      refine wpAnyJ_take0 (i := 32) (v := ?_) rfl (by kernel_rfl) (by kernel_rfl) (by kernel_rfl) (fun _ _ _ h => h) (Or.inl ⟨by rfl, ?_⟩) ?_
      rotate_left
      focus ((intro w hSw; clear hSw; go_simp); try with_reducible rfl)
      (try simp only [Act.put, List.getElem_toArray, List.getElem_cons_zero, List.getElem_cons_succ, List.setIfInBounds_toArray, List.set_cons_zero, List.set_cons_succ])
      refine wpAnyJ_ready (rs := [33]) (by kernel_rfl) (by simp) ?_
      refine AllReadyJ.cons rfl (fun KK hKK => ?_) AllReadyJ.nil
      have hz1 := HST.cell.2.2.2 1
      have hz2 := HST.cell.2.1
      go_simp
      clear hz1 hz2
      replace HST := HST.put1 (.slice (some ⟨g2, 0, none⟩) (vb + 1) c2)
      refine hKK.out _ _ (fun h => absurd h (by decide)) ?_
      clear hKK KK
      generalize u0.setCell ⟨pb, 1, none⟩ (.slice (some ⟨g2, 0, none⟩) (vb + 1) c2) = u1 at HST ⊢
      (try clear hHeld)
      clear u0
      revert u1
      intro u0 HST
      (try simp only [Act.put, List.getElem_toArray, List.getElem_cons_zero, List.getElem_cons_succ, List.setIfInBounds_toArray, List.set_cons_zero, List.set_cons_succ])
      refine wpAnyJ_done (by kernel_rfl) ?_ _
      refine NoPanic.normal ?_
      have T1 := TT.out.upd_b HST.end HST.fr
      obtain ⟨_, ea1, _, _, fe1, _⟩ := T1.a.cells
      have T1 := Lib.hid T1
      clear HST
      go_wp2_with fail
      obtain ⟨n2x, f2x⟩ := T1.out.a.cut2 (m := kk) (fun k => by have := T1.out.one k; omega) (by rw [HVA.out]; omega) ⟨ga2, rfl⟩
      have T2 := T1.out.upd_a n2x f2x
      generalize u0.setCell ⟨pa, 1, none⟩ (.slice (some ⟨ga2, 0, none⟩) kk kk) = u2 at T2 ⊢
      clear n2x f2x ea1 fe1 T1
      obtain ⟨_, e9, kx2, _⟩ := T2.drew.a.key HX.out
      injection e9 with e9
      injection e9 with e9 _
      subst e9
      obtain ⟨_, e9, kz2, fz2⟩ := T2.drew.n.key HZ.out
      injection e9 with e9
      injection e9 with e9 _
      subst e9
      refine wp_region_noPanic ?_
      refine wp_region_J (S := fun u : World => u.cell? ⟨pn, 0, none⟩ = some (.slice (some ⟨gn, 0, none⟩) kn cn1) ∧ u.cell? ⟨pa, 0, none⟩ = some (.slice (some ⟨ga, 0, none⟩) (kk + 1) ca1) ∧ u.cell? ⟨ga, kk, none⟩ = some (.string x)) (fun j => j == 13) (by kernel_rfl) ?_
      have hHeld : (fun u : World => u.cell? ⟨pn, 0, none⟩ = some (.slice (some ⟨gn, 0, none⟩) kn cn1) ∧ u.cell? ⟨pa, 0, none⟩ = some (.slice (some ⟨ga, 0, none⟩) (kk + 1) ca1) ∧ u.cell? ⟨ga, kk, none⟩ = some (.string x)) u2.drew := ⟨T2.drew.n.cells.1, T2.drew.a.cells.1, kx2⟩
      refine wpAnyJ_take0 (i := 0) (v := ?_) rfl (by kernel_rfl) (by kernel_rfl) (by kernel_rfl) (fun _ _ _ h => h) (Or.inl ⟨by rfl, ?_⟩) ?_
      rotate_left
      focus ((intro w hSw; clear hSw; go_simp); try with_reducible rfl)
      (try simp only [Act.put, List.getElem_toArray, List.getElem_cons_zero, List.getElem_cons_succ, List.setIfInBounds_toArray, List.set_cons_zero, List.set_cons_succ])
      refine wpAnyJ_take0 (i := 1) (v := ?_) rfl (by kernel_rfl) (by kernel_rfl) (by kernel_rfl) (fun _ _ _ h => h) (Or.inl ⟨by rfl, ?_⟩) ?_
      rotate_left
      focus ((intro w hSw; clear hSw; go_simp); try with_reducible rfl)
      (try simp only [Act.put, List.getElem_toArray, List.getElem_cons_zero, List.getElem_cons_succ, List.setIfInBounds_toArray, List.set_cons_zero, List.set_cons_succ])
      refine wpAnyJ_take0 (i := 2) (v := ?_) rfl (by kernel_rfl) (by kernel_rfl) (by kernel_rfl) (fun _ _ _ h => h) (Or.inl ⟨by rfl, ?_⟩) ?_
      rotate_left
      focus ((intro w hSw; clear hSw; go_simp); try with_reducible rfl)
      (try simp only [Act.put, List.getElem_toArray, List.getElem_cons_zero, List.getElem_cons_succ, List.setIfInBounds_toArray, List.set_cons_zero, List.set_cons_succ])
      refine wpAnyJ_take (i := 3) (v := ?_) rfl (by kernel_rfl) (by kernel_rfl) (by kernel_rfl) (by kernel_rfl) (fun _ _ _ h => h) (Or.inl ⟨by rfl, ?_⟩) (by assumption) ?_
      rotate_left
      focus ((intro w hSw; (try dsimp only at hSw); go_simp); try with_reducible rfl)
      (try simp only [Act.put, List.getElem_toArray, List.getElem_cons_zero, List.getElem_cons_succ, List.setIfInBounds_toArray, List.set_cons_zero, List.set_cons_succ])
      refine wpAnyJ_take0 (i := 4) (v := ?_) rfl (by kernel_rfl) (by kernel_rfl) (by kernel_rfl) (fun _ _ _ h => h) (Or.inl ⟨by rfl, ?_⟩) ?_
      rotate_left
      focus ((intro w hSw; clear hSw; go_simp); try with_reducible rfl)
      (try simp only [Act.put, List.getElem_toArray, List.getElem_cons_zero, List.getElem_cons_succ, List.setIfInBounds_toArray, List.set_cons_zero, List.set_cons_succ])
      refine wpAnyJ_take0 (i := 5) (v := ?_) rfl (by kernel_rfl) (by kernel_rfl) (by kernel_rfl) (fun _ _ _ h => h) (Or.inl ⟨by rfl, ?_⟩) ?_
      rotate_left
      focus ((intro w hSw; clear hSw; go_simp); try with_reducible rfl)
      (try simp only [Act.put, List.getElem_toArray, List.getElem_cons_zero, List.getElem_cons_succ, List.setIfInBounds_toArray, List.set_cons_zero, List.set_cons_succ])
      refine wpAnyJ_take0 (i := 6) (v := ?_) rfl (by kernel_rfl) (by kernel_rfl) (by kernel_rfl) (fun _ _ _ h => h) (Or.inl ⟨by rfl, ?_⟩) ?_
      rotate_left
      focus ((intro w hSw; clear hSw; go_simp); try with_reducible rfl)
      (try simp only [Act.put, List.getElem_toArray, List.getElem_cons_zero, List.getElem_cons_succ, List.setIfInBounds_toArray, List.set_cons_zero, List.set_cons_succ])
      refine wpAnyJ_take0 (i := 7) (v := ?_) rfl (by kernel_rfl) (by kernel_rfl) (by kernel_rfl) (fun _ _ _ h => h) (Or.inl ⟨by rfl, ?_⟩) ?_
      rotate_left
      focus ((intro w hSw; clear hSw; go_simp); try with_reducible rfl)
      (try simp only [Act.put, List.getElem_toArray, List.getElem_cons_zero, List.getElem_cons_succ, List.setIfInBounds_toArray, List.set_cons_zero, List.set_cons_succ])
      refine wpAnyJ_take (i := 8) (v := ?_) rfl (by kernel_rfl) (by kernel_rfl) (by kernel_rfl) (by kernel_rfl) (fun _ _ _ h => h) (Or.inl ⟨by rfl, ?_⟩) (by assumption) ?_
      rotate_left
      focus ((intro w hSw; (try dsimp only at hSw); go_simp); try with_reducible rfl)
      (try simp only [Act.put, List.getElem_toArray, List.getElem_cons_zero, List.getElem_cons_succ, List.setIfInBounds_toArray, List.set_cons_zero, List.set_cons_succ])
      refine wpAnyJ_take0 (i := 9) (v := ?_) rfl (by kernel_rfl) (by kernel_rfl) (by kernel_rfl) (fun _ _ _ h => h) (Or.inl ⟨by rfl, ?_⟩) ?_
      rotate_left
      focus ((intro w hSw; clear hSw; go_simp); try with_reducible rfl)
      (try simp only [Act.put, List.getElem_toArray, List.getElem_cons_zero, List.getElem_cons_succ, List.setIfInBounds_toArray, List.set_cons_zero, List.set_cons_succ])
      refine wpAnyJ_take0 (i := 10) (v := ?_) rfl (by kernel_rfl) (by kernel_rfl) (by kernel_rfl) (fun _ _ _ h => h) (Or.inl ⟨by rfl, ?_⟩) ?_
      rotate_left
      focus ((intro w hSw; clear hSw; go_simp); try with_reducible rfl)
      (try simp only [Act.put, List.getElem_toArray, List.getElem_cons_zero, List.getElem_cons_succ, List.setIfInBounds_toArray, List.set_cons_zero, List.set_cons_succ])
      refine wpAnyJ_take (i := 11) (v := ?_) rfl (by kernel_rfl) (by kernel_rfl) (by kernel_rfl) (by kernel_rfl) (fun _ _ _ h => h) (Or.inl ⟨by rfl, ?_⟩) (by assumption) ?_
      rotate_left
      focus ((intro w hSw; (try dsimp only at hSw); go_simp); try with_reducible rfl)
      (try simp only [Act.put, List.getElem_toArray, List.getElem_cons_zero, List.getElem_cons_succ, List.setIfInBounds_toArray, List.set_cons_zero, List.set_cons_succ])
      refine wpAnyJ_take0 (i := 12) (v := ?_) rfl (by kernel_rfl) (by kernel_rfl) (by kernel_rfl) (fun _ _ _ h => h) (Or.inl ⟨by rfl, ?_⟩) ?_
      rotate_left
      focus ((intro w hSw; clear hSw; go_simp); try with_reducible rfl)
      (try simp only [Act.put, List.getElem_toArray, List.getElem_cons_zero, List.getElem_cons_succ, List.setIfInBounds_toArray, List.set_cons_zero, List.set_cons_succ])
      refine wpAnyJ_ready (rs := [13]) (by kernel_rfl) (by simp) ?_
      refine AllReadyJ.cons rfl (fun KK hKK => ?_) AllReadyJ.nil
      go_simp
      refine hKK.out _ _ (fun h => absurd h (by decide)) ?_
      clear hKK KK hHeld
      (try simp only [Act.put, List.getElem_toArray, List.getElem_cons_zero, List.getElem_cons_succ, List.setIfInBounds_toArray, List.set_cons_zero, List.set_cons_succ])
      refine wpAnyJ_done (by kernel_rfl) ?_ _
      refine NoPanic.normal ?_
      have h3 := T2.n.set1 (fun k => by have := T2.one k; omega) f x
      have T3 := (T2.upd_n h3.1 h3.2).drew
      generalize (u2.setCell ⟨gn, f, none⟩ (.string x)).drew = u3 at T3 ⊢
      obtain ⟨ea0, _, _, fe0, _, _⟩ := T3.a.cells
      have T3 := Lib.hid T3
      clear T2 h3 kz2 kx2 fz2
      go_wp2_with fail
      rw [← HQ.out]
      obtain ⟨n4, f4⟩ := T3.out.a.cut1 (m := kk) (fun k => by have := T3.out.one k; omega) (by rw [HA.out]; omega) ⟨ga, rfl⟩
      have T4 := T3.out.upd_a n4 f4
      refine ⟨rfl, _, results_none rfl _ _ _, rfl, ?_⟩
      rw [HA.out, HVA.out]
      exact ⟨_, _, _, _, _, _, _, _, _, T4⟩
    · go_simp
      replace HST := HST.alloc (.int .i64 y) 2
      have hH2 : (fun u : World => u.cell? ⟨pb, 0, none⟩ = some (.slice ab1 kb cb1) ∧ u.cell? ⟨pb, 1, none⟩ = some (.slice ab2 vb cb2) ∧ u.cell? ⟨pa, 0, none⟩ = some (.slice (some ⟨ga, 0, none⟩) (kk + 1) ca1) ∧ u.cell? ⟨pa, 1, none⟩ = some (.slice (some ⟨ga2, 0, none⟩) (kk + 1) ca2) ∧ u.cell? ⟨ga, kk, none⟩ = some (.string x) ∧ u.cell? ⟨ga2, kk, none⟩ = some (.int .i64 y)) (u0.alloc (.cells #[.int .i64 y] 2)) := ⟨HST.cell.1, HST.cell.2.1, HST.other da0 z1, HST.other da1 z1, HST.other kx z2, HST.other ky z3⟩
      refine hKK.out _ _ (fun _ _ => hH2) ?_
      clear hKK KK
      generalize u0.heap.size = vb2 at HST ⊢
      generalize u0.alloc (.cells #[.int .i64 y] 2) = u1 at HST hH2 ⊢
      clear hHeld
      have hHeld := hH2
      clear hH2
      clear u0
      revert u1
      intro u0 HST hHeld
      (try simp only [Act.put, List.getElem_toArray, List.getElem_cons_zero, List.getElem_cons_succ, List.setIfInBounds_toArray, List.set_cons_zero, List.set_cons_succ])
      refine wpAnyJ_ready (rs := [14]) (by kernel_rfl) (by simp) ?_
      refine AllReadyJ.cons rfl (fun KK hKK => ?_) AllReadyJ.nil
      go_simp
      go_at_call 42
      refine (HST.ins1 (vb := vb1) (x := x) (i := 0) (by simp) (Nat.zero_le _) HSZ.out.1).mono ?_
      rintro e u1 ⟨g1, c1, rfl, HST2⟩
      clear HST
      have HST := HST2
      clear HST2
      have hH2 : (fun u : World => u.cell? ⟨pb, 0, none⟩ = some (.slice ab1 kb cb1) ∧ u.cell? ⟨pb, 1, none⟩ = some (.slice ab2 vb cb2) ∧ u.cell? ⟨pa, 0, none⟩ = some (.slice (some ⟨ga, 0, none⟩) (kk + 1) ca1) ∧ u.cell? ⟨pa, 1, none⟩ = some (.slice (some ⟨ga2, 0, none⟩) (kk + 1) ca2) ∧ u.cell? ⟨ga, kk, none⟩ = some (.string x) ∧ u.cell? ⟨ga2, kk, none⟩ = some (.int .i64 y)) u1 := ⟨HST.cell.1, HST.cell.2.1, HST.other da0 z1, HST.other da1 z1, HST.other kx z2, HST.other ky z3⟩
      refine hKK.out _ _ (fun _ _ => hH2) ?_
      clear hKK KK
      clear hHeld
      have hHeld := hH2
      clear hH2 u0
      revert u1
      intro u0 HST hHeld
      (try simp only [Act.put, List.getElem_toArray, List.getElem_cons_zero, List.getElem_cons_succ, List.setIfInBounds_toArray, List.set_cons_zero, List.set_cons_succ])
      refine wpAnyJ_ready (rs := [27]) (by kernel_rfl) (by simp) ?_
      refine AllReadyJ.cons rfl (fun KK hKK => ?_) AllReadyJ.nil
      go_simp
      go_at_call 43
      refine (HST.ins2 (vb := vb2) (x := y) (i := 0) (by simp [numV]) (Nat.zero_le _) HSZ.out.2).mono ?_
      rintro e u1 ⟨g2, c2, rfl, HST2⟩
      clear HST
      have HST := HST2
      clear HST2
      have hH2 : (fun u : World => u.cell? ⟨pb, 0, none⟩ = some (.slice ab1 kb cb1) ∧ u.cell? ⟨pb, 1, none⟩ = some (.slice ab2 vb cb2) ∧ u.cell? ⟨pa, 0, none⟩ = some (.slice (some ⟨ga, 0, none⟩) (kk + 1) ca1) ∧ u.cell? ⟨pa, 1, none⟩ = some (.slice (some ⟨ga2, 0, none⟩) (kk + 1) ca2) ∧ u.cell? ⟨ga, kk, none⟩ = some (.string x) ∧ u.cell? ⟨ga2, kk, none⟩ = some (.int .i64 y)) u1 := ⟨HST.cell.1, HST.cell.2.1, HST.other da0 z1, HST.other da1 z1, HST.other kx z2, HST.other ky z3⟩
      refine hKK.out _ _ (fun _ _ => hH2) ?_
      clear hKK KK
      clear hHeld
      have hHeld := hH2
      clear hH2 u0
      revert u1
      intro u0 HST hHeld
      (try simp only [Act.put, List.getElem_toArray, List.getElem_cons_zero, List.getElem_cons_succ, List.setIfInBounds_toArray, List.set_cons_zero, List.set_cons_succ])
      refine wpAnyJ_take0 (i := 28) (v := ?_) rfl (by kernel_rfl) (by kernel_rfl) (by kernel_rfl) (fun _ _ _ h => h) (Or.inl ⟨by rfl, ?_⟩) ?_
      rotate_left
      focus ((intro w hSw; clear hSw; go_simp); try with_reducible rfl)
      (try simp only [Act.put, List.getElem_toArray, List.getElem_cons_zero, List.getElem_cons_succ, List.setIfInBounds_toArray, List.set_cons_zero, List.set_cons_succ])
      refine wpAnyJ_take0 (i := 29) (v := ?_) rfl (by kernel_rfl) (by kernel_rfl) (by kernel_rfl) (fun _ _ _ h => h) (Or.inl ⟨by rfl, ?_⟩) ?_
      rotate_left
      focus ((intro w hSw; clear hSw; go_simp); try with_reducible rfl)
      (try simp only [Act.put, List.getElem_toArray, List.getElem_cons_zero, List.getElem_cons_succ, List.setIfInBounds_toArray, List.set_cons_zero, List.set_cons_succ])
      refine wpAnyJ_ready (rs := [30]) (by kernel_rfl) (by simp) ?_
      refine AllReadyJ.cons rfl (fun KK hKK => ?_) AllReadyJ.nil
      have hz1 := HST.cell.2.2.2 0
      have hz2 := HST.cell.1
      go_simp
      clear hz1 hz2
      replace HST := HST.put0 (.slice (some ⟨g1, 0, none⟩) (kb + 1) c1)
      refine hKK.out _ _ (fun h => absurd h (by decide)) ?_
      clear hKK KK
      generalize u0.setCell ⟨pb, 0, none⟩ (.slice (some ⟨g1, 0, none⟩) (kb + 1) c1) = u1 at HST ⊢
      (try clear hHeld)
      clear u0
      revert u1
      intro u0 HST
      (try simp only [Act.put, List.getElem_toArray, List.getElem_cons_zero, List.getElem_cons_succ, List.setIfInBounds_toArray, List.set_cons_zero, List.set_cons_succ])
      refine wpAnyJ_take0 (i := 31) (v := ?_) rfl (by kernel_rfl) (by kernel_rfl) (by kernel_rfl) (fun _ _ _ h => h) (Or.inl ⟨by rfl, ?_⟩) ?_
      rotate_left
      focus ((intro w hSw; clear hSw; go_simp); try with_reducible rfl)
      (try simp only [Act.put, List.getElem_toArray, List.getElem_cons_zero, List.getElem_cons_succ, List.setIfInBounds_toArray, List.set_cons_zero, List.set_cons_succ])
      refine wpAnyJ_take0 (i := 32) (v := ?_) rfl (by kernel_rfl) (by kernel_rfl) (by kernel_rfl) (fun _ _ _ h => h) (Or.inl ⟨by rfl, ?_⟩) ?_
      rotate_left
      focus ((intro w hSw; clear hSw; go_simp); try with_reducible rfl)
      (try simp only [Act.put, List.getElem_toArray, List.getElem_cons_zero, List.getElem_cons_succ, List.setIfInBounds_toArray, List.set_cons_zero, List.set_cons_succ])
      refine wpAnyJ_ready (rs := [33]) (by kernel_rfl) (by simp) ?_
      refine AllReadyJ.cons rfl (fun KK hKK => ?_) AllReadyJ.nil
      have hz1 := HST.cell.2.2.2 1
      have hz2 := HST.cell.2.1
      go_simp
      clear hz1 hz2
      replace HST := HST.put1 (.slice (some ⟨g2, 0, none⟩) (vb + 1) c2)
      refine hKK.out _ _ (fun h => absurd h (by decide)) ?_
      clear hKK KK
      generalize u0.setCell ⟨pb, 1, none⟩ (.slice (some ⟨g2, 0, none⟩) (vb + 1) c2) = u1 at HST ⊢
      (try clear hHeld)
      clear u0
      revert u1
      intro u0 HST
      (try simp only [Act.put, List.getElem_toArray, List.getElem_cons_zero, List.getElem_cons_succ, List.setIfInBounds_toArray, List.set_cons_zero, List.set_cons_succ])
      refine wpAnyJ_done (by kernel_rfl) ?_ _
      refine NoPanic.normal ?_
      have T1 := TT.out.upd_b HST.end HST.fr
      obtain ⟨_, ea1, _, _, fe1, _⟩ := T1.a.cells
      have T1 := Lib.hid T1
      clear HST
      go_wp2_with fail
      obtain ⟨n2x, f2x⟩ := T1.out.a.cut2 (m := kk) (fun k => by have := T1.out.one k; omega) (by rw [HVA.out]; omega) ⟨ga2, rfl⟩
      have T2 := T1.out.upd_a n2x f2x
      generalize u0.setCell ⟨pa, 1, none⟩ (.slice (some ⟨ga2, 0, none⟩) kk kk) = u2 at T2 ⊢
      clear n2x f2x ea1 fe1 T1
      obtain ⟨_, e9, kx2, _⟩ := T2.drew.a.key HX.out
      injection e9 with e9
      injection e9 with e9 _
      subst e9
      obtain ⟨_, e9, kz2, fz2⟩ := T2.drew.n.key HZ.out
      injection e9 with e9
      injection e9 with e9 _
      subst e9
      refine wp_region_noPanic ?_
      refine wp_region_J (S := fun u : World => u.cell? ⟨pn, 0, none⟩ = some (.slice (some ⟨gn, 0, none⟩) kn cn1) ∧ u.cell? ⟨pa, 0, none⟩ = some (.slice (some ⟨ga, 0, none⟩) (kk + 1) ca1) ∧ u.cell? ⟨ga, kk, none⟩ = some (.string x)) (fun j => j == 13) (by kernel_rfl) ?_
      have hHeld : (fun u : World => u.cell? ⟨pn, 0, none⟩ = some (.slice (some ⟨gn, 0, none⟩) kn cn1) ∧ u.cell? ⟨pa, 0, none⟩ = some (.slice (some ⟨ga, 0, none⟩) (kk + 1) ca1) ∧ u.cell? ⟨ga, kk, none⟩ = some (.string x)) u2.drew := ⟨T2.drew.n.cells.1, T2.drew.a.cells.1, kx2⟩
      refine wpAnyJ_take0 (i := 0) (v := ?_) rfl (by kernel_rfl) (by kernel_rfl) (by kernel_rfl) (fun _ _ _ h => h) (Or.inl ⟨by rfl, ?_⟩) ?_
      rotate_left
      focus ((intro w hSw; clear hSw; go_simp); try with_reducible rfl)
      (try simp only [Act.put, List.getElem_toArray, List.getElem_cons_zero, List.getElem_cons_succ, List.setIfInBounds_toArray, List.set_cons_zero, List.set_cons_succ])
      refine wpAnyJ_take0 (i := 1) (v := ?_) rfl (by kernel_rfl) (by kernel_rfl) (by kernel_rfl) (fun _ _ _ h => h) (Or.inl ⟨by rfl, ?_⟩) ?_
      rotate_left
      focus ((intro w hSw; clear hSw; go_simp); try with_reducible rfl)
      (try simp only [Act.put, List.getElem_toArray, List.getElem_cons_zero, List.getElem_cons_succ, List.setIfInBounds_toArray, List.set_cons_zero, List.set_cons_succ])
      refine wpAnyJ_take0 (i := 2) (v := ?_) rfl (by kernel_rfl) (by kernel_rfl) (by kernel_rfl) (fun _ _ _ h => h) (Or.inl ⟨by rfl, ?_⟩) ?_
      rotate_left
      focus ((intro w hSw; clear hSw; go_simp); try with_reducible rfl)
      (try simp only [Act.put, List.getElem_toArray, List.getElem_cons_zero, List.getElem_cons_succ, List.setIfInBounds_toArray, List.set_cons_zero, List.set_cons_succ])
      refine wpAnyJ_take (i := 3) (v := ?_) rfl (by kernel_rfl) (by kernel_rfl) (by kernel_rfl) (by kernel_rfl) (fun _ _ _ h => h) (Or.inl ⟨by rfl, ?_⟩) (by assumption) ?_
      rotate_left
      focus ((intro w hSw; (try dsimp only at hSw); go_simp); try with_reducible rfl)
      (try simp only [Act.put, List.getElem_toArray, List.getElem_cons_zero, List.getElem_cons_succ, List.setIfInBounds_toArray, List.set_cons_zero, List.set_cons_succ])
      refine wpAnyJ_take0 (i := 4) (v := ?_) rfl (by kernel_rfl) (by kernel_rfl) (by kernel_rfl) (fun _ _ _ h => h) (Or.inl ⟨by rfl, ?_⟩) ?_
      rotate_left
      focus ((intro w hSw; clear hSw; go_simp); try with_reducible rfl)
      (try simp only [Act.put, List.getElem_toArray, List.getElem_cons_zero, List.getElem_cons_succ, List.setIfInBounds_toArray, List.set_cons_zero, List.set_cons_succ])
      refine wpAnyJ_take0 (i := 5) (v := ?_) rfl (by kernel_rfl) (by kernel_rfl) (by kernel_rfl) (fun _ _ _ h => h) (Or.inl ⟨by rfl, ?_⟩) ?_
      rotate_left
      focus ((intro w hSw; clear hSw; go_simp); try with_reducible rfl)
      (try simp only [Act.put, List.getElem_toArray, List.getElem_cons_zero, List.getElem_cons_succ, List.setIfInBounds_toArray, List.set_cons_zero, List.set_cons_succ])
      refine wpAnyJ_take0 (i := 6) (v := ?_) rfl (by kernel_rfl) (by kernel_rfl) (by kernel_rfl) (fun _ _ _ h => h) (Or.inl ⟨by rfl, ?_⟩) ?_
      rotate_left
      focus ((intro w hSw; clear hSw; go_simp); try with_reducible rfl)
      (try simp only [Act.put, List.getElem_toArray, List.getElem_cons_zero, List.getElem_cons_succ, List.setIfInBounds_toArray, List.set_cons_zero, List.set_cons_succ])
      refine wpAnyJ_take0 (i := 7) (v := ?_) rfl (by kernel_rfl) (by kernel_rfl) (by kernel_rfl) (fun _ _ _ h => h) (Or.inl ⟨by rfl, ?_⟩) ?_
      rotate_left
      focus ((intro w hSw; clear hSw; go_simp); try with_reducible rfl)
      (try simp only [Act.put, List.getElem_toArray, List.getElem_cons_zero, List.getElem_cons_succ, List.setIfInBounds_toArray, List.set_cons_zero, List.set_cons_succ])
      refine wpAnyJ_take (i := 8) (v := ?_) rfl (by kernel_rfl) (by kernel_rfl) (by kernel_rfl) (by kernel_rfl) (fun _ _ _ h => h) (Or.inl ⟨by rfl, ?_⟩) (by assumption) ?_
      rotate_left
      focus ((intro w hSw; (try dsimp only at hSw); go_simp); try with_reducible rfl)
      (try simp only [Act.put, List.getElem_toArray, List.getElem_cons_zero, List.getElem_cons_succ, List.setIfInBounds_toArray, List.set_cons_zero, List.set_cons_succ])
      refine wpAnyJ_take0 (i := 9) (v := ?_) rfl (by kernel_rfl) (by kernel_rfl) (by kernel_rfl) (fun _ _ _ h => h) (Or.inl ⟨by rfl, ?_⟩) ?_
      rotate_left
      focus ((intro w hSw; clear hSw; go_simp); try with_reducible rfl)
      (try simp only [Act.put, List.getElem_toArray, List.getElem_cons_zero, List.getElem_cons_succ, List.setIfInBounds_toArray, List.set_cons_zero, List.set_cons_succ])
      refine wpAnyJ_take0 (i := 10) (v := ?_) rfl (by kernel_rfl) (by kernel_rfl) (by kernel_rfl) (fun _ _ _ h => h) (Or.inl ⟨by rfl, ?_⟩) ?_
      rotate_left
      focus ((intro w hSw; clear hSw; go_simp); try with_reducible rfl)
      (try simp only [Act.put, List.getElem_toArray, List.getElem_cons_zero, List.getElem_cons_succ, List.setIfInBounds_toArray, List.set_cons_zero, List.set_cons_succ])
      refine wpAnyJ_take (i := 11) (v := ?_) rfl (by kernel_rfl) (by kernel_rfl) (by kernel_rfl) (by kernel_rfl) (fun _ _ _ h => h) (Or.inl ⟨by rfl, ?_⟩) (by assumption) ?_
      rotate_left
      focus ((intro w hSw; (try dsimp only at hSw); go_simp); try with_reducible rfl)
      (try simp only [Act.put, List.getElem_toArray, List.getElem_cons_zero, List.getElem_cons_succ, List.setIfInBounds_toArray, List.set_cons_zero, List.set_cons_succ])
      refine wpAnyJ_take0 (i := 12) (v := ?_) rfl (by kernel_rfl) (by kernel_rfl) (by kernel_rfl) (fun _ _ _ h => h) (Or.inl ⟨by rfl, ?_⟩) ?_
      rotate_left
      focus ((intro w hSw; clear hSw; go_simp); try with_reducible rfl)
      (try simp only [Act.put, List.getElem_toArray, List.getElem_cons_zero, List.getElem_cons_succ, List.setIfInBounds_toArray, List.set_cons_zero, List.set_cons_succ])
      refine wpAnyJ_ready (rs := [13]) (by kernel_rfl) (by simp) ?_
      refine AllReadyJ.cons rfl (fun KK hKK => ?_) AllReadyJ.nil
      go_simp
      refine hKK.out _ _ (fun h => absurd h (by decide)) ?_
      clear hKK KK hHeld
      (try simp only [Act.put, List.getElem_toArray, List.getElem_cons_zero, List.getElem_cons_succ, List.setIfInBounds_toArray, List.set_cons_zero, List.set_cons_succ])
      refine wpAnyJ_done (by kernel_rfl) ?_ _
      refine NoPanic.normal ?_
      have h3 := T2.n.set1 (fun k => by have := T2.one k; omega) f x
      have T3 := (T2.upd_n h3.1 h3.2).drew
      generalize (u2.setCell ⟨gn, f, none⟩ (.string x)).drew = u3 at T3 ⊢
      obtain ⟨ea0, _, _, fe0, _, _⟩ := T3.a.cells
      have T3 := Lib.hid T3
      clear T2 h3 kz2 kx2 fz2
      go_wp2_with fail
      rw [← HQ.out]
      obtain ⟨n4, f4⟩ := T3.out.a.cut1 (m := kk) (fun k => by have := T3.out.one k; omega) (by rw [HA.out]; omega) ⟨ga, rfl⟩
      have T4 := T3.out.upd_a n4 f4
      refine ⟨rfl, _, results_none rfl _ _ _, rfl, ?_⟩
      rw [HA.out, HVA.out]
      exact ⟨_, _, _, _, _, _, _, _, _, T4⟩
  · go_simp
    replace HST := HST.alloc (.int .i64 y) 2
    have hH2 : (fun u : World => u.cell? ⟨pb, 0, none⟩ = some (.slice ab1 kb cb1) ∧ u.cell? ⟨pb, 1, none⟩ = some (.slice ab2 vb cb2) ∧ u.cell? ⟨pa, 0, none⟩ = some (.slice (some ⟨ga, 0, none⟩) (kk + 1) ca1) ∧ u.cell? ⟨pa, 1, none⟩ = some (.slice (some ⟨ga2, 0, none⟩) (kk + 1) ca2) ∧ u.cell? ⟨ga, kk, none⟩ = some (.string x) ∧ u.cell? ⟨ga2, kk, none⟩ = some (.int .i64 y)) (u0.alloc (.cells #[.int .i64 y] 2)) := ⟨HST.cell.1, HST.cell.2.1, HST.other da0 z1, HST.other da1 z1, HST.other kx z2, HST.other ky z3⟩
    refine hKK.out _ _ (fun _ _ => hH2) ?_
    clear hKK KK
    generalize u0.heap.size = vb2 at HST ⊢
    generalize u0.alloc (.cells #[.int .i64 y] 2) = u1 at HST hH2 ⊢
    clear hHeld
    have hHeld := hH2
    clear hH2
    clear u0
    revert u1
    intro u0 HST hHeld
    (try simp only [Act.put, List.getElem_toArray, List.getElem_cons_zero, List.getElem_cons_succ, List.setIfInBounds_toArray, List.set_cons_zero, List.set_cons_succ])
    refine wpAnyJ_ready (rs := [13]) (by kernel_rfl) (by simp) ?_
    refine AllReadyJ.cons rfl (fun KK hKK => ?_) AllReadyJ.nil
    go_simp
    replace HST := HST.alloc (.string x) 9
    have hH2 : (fun u : World => u.cell? ⟨pb, 0, none⟩ = some (.slice ab1 kb cb1) ∧ u.cell? ⟨pb, 1, none⟩ = some (.slice ab2 vb cb2) ∧ u.cell? ⟨pa, 0, none⟩ = some (.slice (some ⟨ga, 0, none⟩) (kk + 1) ca1) ∧ u.cell? ⟨pa, 1, none⟩ = some (.slice (some ⟨ga2, 0, none⟩) (kk + 1) ca2) ∧ u.cell? ⟨ga, kk, none⟩ = some (.string x) ∧ u.cell? ⟨ga2, kk, none⟩ = some (.int .i64 y)) (u0.alloc (.cells #[.string x] 9)) := ⟨HST.cell.1, HST.cell.2.1, HST.other da0 z1, HST.other da1 z1, HST.other kx z2, HST.other ky z3⟩
    refine hKK.out _ _ (fun _ _ => hH2) ?_
    clear hKK KK
    generalize u0.heap.size = vb1 at HST ⊢
    generalize u0.alloc (.cells #[.string x] 9) = u1 at HST hH2 ⊢
    clear hHeld
    have hHeld := hH2
    clear hH2
    clear u0
    revert u1
    intro u0 HST hHeld
    (try simp only [Act.put, List.getElem_toArray, List.getElem_cons_zero, List.getElem_cons_succ, List.setIfInBounds_toArray, List.set_cons_zero, List.set_cons_succ])
    refine wpAnyJ_ready (rs := [14]) (by kernel_rfl) (by simp) ?_
    refine AllReadyJ.cons rfl (fun KK hKK => ?_) AllReadyJ.nil
    go_simp
    go_at_call 42
    refine (HST.ins1 (vb := vb1) (x := x) (i := 0) (by simp) (Nat.zero_le _) HSZ.out.1).mono ?_
    rintro e u1 ⟨g1, c1, rfl, HST2⟩
    clear HST
    have HST := HST2
    clear HST2
    have hH2 : (fun u : World => u.cell? ⟨pb, 0, none⟩ = some (.slice ab1 kb cb1) ∧ u.cell? ⟨pb, 1, none⟩ = some (.slice ab2 vb cb2) ∧ u.cell? ⟨pa, 0, none⟩ = some (.slice (some ⟨ga, 0, none⟩) (kk + 1) ca1) ∧ u.cell? ⟨pa, 1, none⟩ = some (.slice (some ⟨ga2, 0, none⟩) (kk + 1) ca2) ∧ u.cell? ⟨ga, kk, none⟩ = some (.string x) ∧ u.cell? ⟨ga2, kk, none⟩ = some (.int .i64 y)) u1 := ⟨HST.cell.1, HST.cell.2.1, HST.other da0 z1, HST.other da1 z1, HST.other kx z2, HST.other ky z3⟩
    refine hKK.out _ _ (fun _ _ => hH2) ?_
    clear hKK KK
    clear hHeld
    have hHeld := hH2
    clear hH2 u0
    revert u1
    intro u0 HST hHeld
    (try simp only [Act.put, List.getElem_toArray, List.getElem_cons_zero, List.getElem_cons_succ, List.setIfInBounds_toArray, List.set_cons_zero, List.set_cons_succ])
    refine wpAnyJ_ready (rs := [27]) (by kernel_rfl) (by simp) ?_
    refine AllReadyJ.cons rfl (fun KK hKK => ?_) AllReadyJ.nil
    go_simp
    go_at_call 43
    refine (HST.ins2 (vb := vb2) (x := y) (i := 0) (by simp [numV]) (Nat.zero_le _) HSZ.out.2).mono ?_
    rintro e u1 ⟨g2, c2, rfl, HST2⟩
    clear HST
    have HST := HST2
    clear HST2
    have hH2 : (fun u : World => u.cell? ⟨pb, 0, none⟩ = some (.slice ab1 kb cb1) ∧ u.cell? ⟨pb, 1, none⟩ = some (.slice ab2 vb cb2) ∧ u.cell? ⟨pa, 0, none⟩ = some (.slice (some ⟨ga, 0, none⟩) (kk + 1) ca1) ∧ u.cell? ⟨pa, 1, none⟩ = some (.slice (some ⟨ga2, 0, none⟩) (kk + 1) ca2) ∧ u.cell? ⟨ga, kk, none⟩ = some (.string x) ∧ u.cell? ⟨ga2, kk, none⟩ = some (.int .i64 y)) u1 := ⟨HST.cell.1, HST.cell.2.1, HST.other da0 z1, HST.other da1 z1, HST.other kx z2, HST.other ky z3⟩
    refine hKK.out _ _ (fun _ _ => hH2) ?_
    clear hKK KK
    clear hHeld
    have hHeld := hH2
    clear hH2 u0
    revert u1
    intro u0 HST hHeld
    (try simp only [Act.put, List.getElem_toArray, List.getElem_cons_zero, List.getElem_cons_succ, List.setIfInBounds_toArray, List.set_cons_zero, List.set_cons_succ])
    refine wpAnyJ_take0 (i := 28) (v := ?_) rfl (by kernel_rfl) (by kernel_rfl) (by kernel_rfl) (fun _ _ _ h => h) (Or.inl ⟨by rfl, ?_⟩) ?_
    rotate_left
    focus ((intro w hSw; clear hSw; go_simp); try with_reducible rfl)
    (try simp only [Act.put, List.getElem_toArray, List.getElem_cons_zero, List.getElem_cons_succ, List.setIfInBounds_toArray, List.set_cons_zero, List.set_cons_succ])
    refine wpAnyJ_take0 (i := 29) (v := ?_) rfl (by kernel_rfl) (by kernel_rfl) (by kernel_rfl) (fun _ _ _ h => h) (Or.inl ⟨by rfl, ?_⟩) ?_
    rotate_left
    focus ((intro w hSw; clear hSw; go_simp); try with_reducible rfl)
    (try simp only [Act.put, List.getElem_toArray, List.getElem_cons_zero, List.getElem_cons_succ, List.setIfInBounds_toArray, List.set_cons_zero, List.set_cons_succ])
    refine wpAnyJ_ready (rs := [30]) (by kernel_rfl) (by simp) ?_
    refine AllReadyJ.cons rfl (fun KK hKK => ?_) AllReadyJ.nil
    have hz1 := HST.cell.2.2.2 0
    have hz2 := HST.cell.1
    go_simp
    clear hz1 hz2
    replace HST := HST.put0 (.slice (some ⟨g1, 0, none⟩) (kb + 1) c1)
    refine hKK.out _ _ (fun h => absurd h (by decide)) ?_
    clear hKK KK
    generalize u0.setCell ⟨pb, 0, none⟩ (.slice (some ⟨g1, 0, none⟩) (kb + 1) c1) = u1 at HST ⊢
    (try clear hHeld)
    clear u0
    revert u1
    intro u0 HST
    (try simp only [Act.put, List.getElem_toArray, List.getElem_cons_zero, List.getElem_cons_succ, List.setIfInBounds_toArray, List.set_cons_zero, List.set_cons_succ])
    refine wpAnyJ_take0 (i := 31) (v := ?_) rfl (by kernel_rfl) (by kernel_rfl) (by kernel_rfl) (fun _ _ _ h => h) (Or.inl ⟨by rfl, ?_⟩) ?_
    rotate_left
    focus ((intro w hSw; clear hSw; go_simp); try with_reducible rfl)
    (try simp only [Act.put, List.getElem_toArray, List.getElem_cons_zero, List.getElem_cons_succ, List.setIfInBounds_toArray, List.set_cons_zero, List.set_cons_succ])
    refine wpAnyJ_take0 (i := 32) (v := ?_) rfl (by kernel_rfl) (by kernel_rfl) (by kernel_rfl) (fun _ _ _ h => h) (Or.inl ⟨by rfl, ?_⟩) ?_
    rotate_left
    focus ((intro w hSw; clear hSw; go_simp); try with_reducible rfl)
    (try simp only [Act.put, List.getElem_toArray, List.getElem_cons_zero, List.getElem_cons_succ, List.setIfInBounds_toArray, List.set_cons_zero, List.set_cons_succ])
    refine wpAnyJ_ready (rs := [33]) (by kernel_rfl) (by simp) ?_
    refine AllReadyJ.cons rfl (fun KK hKK => ?_) AllReadyJ.nil
    have hz1 := HST.cell.2.2.2 1
    have hz2 := HST.cell.2.1
    go_simp
    clear hz1 hz2
    replace HST := HST.put1 (.slice (some ⟨g2, 0, none⟩) (vb + 1) c2)
    refine hKK.out _ _ (fun h => absurd h (by decide)) ?_
    clear hKK KK
    generalize u0.setCell ⟨pb, 1, none⟩ (.slice (some ⟨g2, 0, none⟩) (vb + 1) c2) = u1 at HST ⊢
    (try clear hHeld)
    clear u0
    revert u1
    intro u0 HST
    (try simp only [Act.put, List.getElem_toArray, List.getElem_cons_zero, List.getElem_cons_succ, List.setIfInBounds_toArray, List.set_cons_zero, List.set_cons_succ])
    refine wpAnyJ_done (by kernel_rfl) ?_ _
    refine NoPanic.normal ?_
    have T1 := TT.out.upd_b HST.end HST.fr
    obtain ⟨_, ea1, _, _, fe1, _⟩ := T1.a.cells
    have T1 := Lib.hid T1
    clear HST
    go_wp2_with fail
    obtain ⟨n2x, f2x⟩ := T1.out.a.cut2 (m := kk) (fun k => by have := T1.out.one k; omega) (by rw [HVA.out]; omega) ⟨ga2, rfl⟩
    have T2 := T1.out.upd_a n2x f2x
    generalize u0.setCell ⟨pa, 1, none⟩ (.slice (some ⟨ga2, 0, none⟩) kk kk) = u2 at T2 ⊢
    clear n2x f2x ea1 fe1 T1
    obtain ⟨_, e9, kx2, _⟩ := T2.drew.a.key HX.out
    injection e9 with e9
    injection e9 with e9 _
    subst e9
    obtain ⟨_, e9, kz2, fz2⟩ := T2.drew.n.key HZ.out
    injection e9 with e9
    injection e9 with e9 _
    subst e9
    refine wp_region_noPanic ?_
    refine wp_region_J (S := fun u : World => u.cell? ⟨pn, 0, none⟩ = some (.slice (some ⟨gn, 0, none⟩) kn cn1) ∧ u.cell? ⟨pa, 0, none⟩ = some (.slice (some ⟨ga, 0, none⟩) (kk + 1) ca1) ∧ u.cell? ⟨ga, kk, none⟩ = some (.string x)) (fun j => j == 13) (by kernel_rfl) ?_
    have hHeld : (fun u : World => u.cell? ⟨pn, 0, none⟩ = some (.slice (some ⟨gn, 0, none⟩) kn cn1) ∧ u.cell? ⟨pa, 0, none⟩ = some (.slice (some ⟨ga, 0, none⟩) (kk + 1) ca1) ∧ u.cell? ⟨ga, kk, none⟩ = some (.string x)) u2.drew := ⟨T2.drew.n.cells.1, T2.drew.a.cells.1, kx2⟩
    refine wpAnyJ_take0 (i := 0) (v := ?_) rfl (by kernel_rfl) (by kernel_rfl) (by kernel_rfl) (fun _ _ _ h => h) (Or.inl ⟨by rfl, ?_⟩) ?_
    rotate_left
    focus ((intro w hSw; clear hSw; go_simp); try with_reducible rfl)
    (try simp only [Act.put, List.getElem_toArray, List.getElem_cons_zero, List.getElem_cons_succ, List.setIfInBounds_toArray, List.set_cons_zero, List.set_cons_succ])
    refine wpAnyJ_take0 (i := 1) (v := ?_) rfl (by kernel_rfl) (by kernel_rfl) (by kernel_rfl) (fun _ _ _ h => h) (Or.inl ⟨by rfl, ?_⟩) ?_
    rotate_left
    focus ((intro w hSw; clear hSw; go_simp); try with_reducible rfl)
    (try simp only [Act.put, List.getElem_toArray, List.getElem_cons_zero, List.getElem_cons_succ, List.setIfInBounds_toArray, List.set_cons_zero, List.set_cons_succ])
    refine wpAnyJ_take0 (i := 2) (v := ?_) rfl (by kernel_rfl) (by kernel_rfl) (by kernel_rfl) (fun _ _ _ h => h) (Or.inl ⟨by rfl, ?_⟩) ?_
    rotate_left
    focus ((intro w hSw; clear hSw; go_simp); try with_reducible rfl)
    (try simp only [Act.put, List.getElem_toArray, List.getElem_cons_zero, List.getElem_cons_succ, List.setIfInBounds_toArray, List.set_cons_zero, List.set_cons_succ])
    refine wpAnyJ_take (i := 3) (v := ?_) rfl (by kernel_rfl) (by kernel_rfl) (by kernel_rfl) (by kernel_rfl) (fun _ _ _ h => h) (Or.inl ⟨by rfl, ?_⟩) (by assumption) ?_
    rotate_left
    focus ((intro w hSw; (try dsimp only at hSw); go_simp); try with_reducible rfl)
    (try simp only [Act.put, List.getElem_toArray, List.getElem_cons_zero, List.getElem_cons_succ, List.setIfInBounds_toArray, List.set_cons_zero, List.set_cons_succ])
    refine wpAnyJ_take0 (i := 4) (v := ?_) rfl (by kernel_rfl) (by kernel_rfl) (by kernel_rfl) (fun _ _ _ h => h) (Or.inl ⟨by rfl, ?_⟩) ?_
    rotate_left
    focus ((intro w hSw; clear hSw; go_simp); try with_reducible rfl)
    (try simp only [Act.put, List.getElem_toArray, List.getElem_cons_zero, List.getElem_cons_succ, List.setIfInBounds_toArray, List.set_cons_zero, List.set_cons_succ])
    refine wpAnyJ_take0 (i := 5) (v := ?_) rfl (by kernel_rfl) (by kernel_rfl) (by kernel_rfl) (fun _ _ _ h => h) (Or.inl ⟨by rfl, ?_⟩) ?_
    rotate_left
    focus ((intro w hSw; clear hSw; go_simp); try with_reducible rfl)
    (try simp only [Act.put, List.getElem_toArray, List.getElem_cons_zero, List.getElem_cons_succ, List.setIfInBounds_toArray, List.set_cons_zero, List.set_cons_succ])
    refine wpAnyJ_take0 (i := 6) (v := ?_) rfl (by kernel_rfl) (by kernel_rfl) (by kernel_rfl) (fun _ _ _ h => h) (Or.inl ⟨by rfl, ?_⟩) ?_
    rotate_left
    focus ((intro w hSw; clear hSw; go_simp); try with_reducible rfl)
    (try simp only [Act.put, List.getElem_toArray, List.getElem_cons_zero, List.getElem_cons_succ, List.setIfInBounds_toArray, List.set_cons_zero, List.set_cons_succ])
    refine wpAnyJ_take0 (i := 7) (v := ?_) rfl (by kernel_rfl) (by kernel_rfl) (by kernel_rfl) (fun _ _ _ h => h) (Or.inl ⟨by rfl, ?_⟩) ?_
    rotate_left
    focus ((intro w hSw; clear hSw; go_simp); try with_reducible rfl)
    (try simp only [Act.put, List.getElem_toArray, List.getElem_cons_zero, List.getElem_cons_succ, List.setIfInBounds_toArray, List.set_cons_zero, List.set_cons_succ])
    refine wpAnyJ_take (i := 8) (v := ?_) rfl (by kernel_rfl) (by kernel_rfl) (by kernel_rfl) (by kernel_rfl) (fun _ _ _ h => h) (Or.inl ⟨by rfl, ?_⟩) (by assumption) ?_
    rotate_left
    focus ((intro w hSw; (try dsimp only at hSw); go_simp); try with_reducible rfl)
    (try simp only [Act.put, List.getElem_toArray, List.getElem_cons_zero, List.getElem_cons_succ, List.setIfInBounds_toArray, List.set_cons_zero, List.set_cons_succ])
    refine wpAnyJ_take0 (i := 9) (v := ?_) rfl (by kernel_rfl) (by kernel_rfl) (by kernel_rfl) (fun _ _ _ h => h) (Or.inl ⟨by rfl, ?_⟩) ?_
    rotate_left
    focus ((intro w hSw; clear hSw; go_simp); try with_reducible rfl)
    (try simp only [Act.put, List.getElem_toArray, List.getElem_cons_zero, List.getElem_cons_succ, List.setIfInBounds_toArray, List.set_cons_zero, List.set_cons_succ])
    refine wpAnyJ_take0 (i := 10) (v := ?_) rfl (by kernel_rfl) (by kernel_rfl) (by kernel_rfl) (fun _ _ _ h => h) (Or.inl ⟨by rfl, ?_⟩) ?_
    rotate_left
    focus ((intro w hSw; clear hSw; go_simp); try with_reducible rfl)
    (try simp only [Act.put, List.getElem_toArray, List.getElem_cons_zero, List.getElem_cons_succ, List.setIfInBounds_toArray, List.set_cons_zero, List.set_cons_succ])
    refine wpAnyJ_take (i := 11) (v := ?_) rfl (by kernel_rfl) (by kernel_rfl) (by kernel_rfl) (by kernel_rfl) (fun _ _ _ h => h) (Or.inl ⟨by rfl, ?_⟩) (by assumption) ?_
    rotate_left
    focus ((intro w hSw; (try dsimp only at hSw); go_simp); try with_reducible rfl)
    (try simp only [Act.put, List.getElem_toArray, List.getElem_cons_zero, List.getElem_cons_succ, List.setIfInBounds_toArray, List.set_cons_zero, List.set_cons_succ])
    refine wpAnyJ_take0 (i := 12) (v := ?_) rfl (by kernel_rfl) (by kernel_rfl) (by kernel_rfl) (fun _ _ _ h => h) (Or.inl ⟨by rfl, ?_⟩) ?_
    rotate_left
    focus ((intro w hSw; clear hSw; go_simp); try with_reducible rfl)
    (try simp only [Act.put, List.getElem_toArray, List.getElem_cons_zero, List.getElem_cons_succ, List.setIfInBounds_toArray, List.set_cons_zero, List.set_cons_succ])
    refine wpAnyJ_ready (rs := [13]) (by kernel_rfl) (by simp) ?_
    refine AllReadyJ.cons rfl (fun KK hKK => ?_) AllReadyJ.nil
    go_simp
    refine hKK.out _ _ (fun h => absurd h (by decide)) ?_
    clear hKK KK hHeld
    (try simp only [Act.put, List.getElem_toArray, List.getElem_cons_zero, List.getElem_cons_succ, List.setIfInBounds_toArray, List.set_cons_zero, List.set_cons_succ])
    refine wpAnyJ_done (by kernel_rfl) ?_ _
    refine NoPanic.normal ?_
    have h3 := T2.n.set1 (fun k => by have := T2.one k; omega) f x
    have T3 := (T2.upd_n h3.1 h3.2).drew
    generalize (u2.setCell ⟨gn, f, none⟩ (.string x)).drew = u3 at T3 ⊢
    obtain ⟨ea0, _, _, fe0, _, _⟩ := T3.a.cells
    have T3 := Lib.hid T3
    clear T2 h3 kz2 kx2 fz2
    go_wp2_with fail
    rw [← HQ.out]
    obtain ⟨n4, f4⟩ := T3.out.a.cut1 (m := kk) (fun k => by have := T3.out.one k; omega) (by rw [HA.out]; omega) ⟨ga, rfl⟩
    have T4 := T3.out.upd_a n4 f4
    refine ⟨rfl, _, results_none rfl _ _ _, rfl, ?_⟩
    rw [HA.out, HVA.out]
    exact ⟨_, _, _, _, _, _, _, _, _, T4⟩
end Go.Proofs.Ytjoopjmcnkiieaa

/- lend: the left neighbour lends its last kid, both are forks. Conditions: the three nodes are there, apart. -/
namespace Go.Proofs.Ytjoopjmcnkiieaa
open Go.RowKit Go.Lib
set_option linter.unusedSimpArgs false
set_option linter.unusedVariables false

set_option maxRecDepth 100000 in
set_option maxHeartbeats 32000000 in
theorem lend_rf {w : World} {pn pa pb f t kk y : Nat} {n1 n2 n3 a1 a2 a3 b1 b2 b3 : Value} {Kn Ka Kb : List ByteArray} {Vn Va Vb : List Int} {Cn Ca Cb : List Nat} {x z : ByteArray}
    (hn : NodeAt w pn n1 n2 n3 Kn Vn Cn) (ha : NodeAt w pa a1 a2 a3 Ka Va Ca) (hb : NodeAt w pb b1 b2 b3 Kb Vb Cb) (hone : ∀ k, ow pn n1 n2 n3 k + ow pa a1 a2 a3 k + ow pb b1 b2 b3 k ≤ 1)
    (hf : Cn[f]? = some pa) (ht : Cn[t]? = some pb) (hsz : Kn.length ≤ 1000 ∧ Cn.length ≤ 1000 ∧ Ka.length ≤ 1000 ∧ Kb.length ≤ 1000 ∧ Cb.length ≤ 1000 ∧ Vb.length ≤ 1000 ∧ Ca.length ≤ 1000 ∧ Va.length ≤ 1000) (hft : f < t) (hA : Ka.length = kk + 1) (hCA : Ca.length = kk + 2) (hx : Ka[kk]? = some x) (hy : Ca[kk + 1]? = some y) (hz : Kn[f]? = some z) :
    Calls Try.prog 62 #[.pointer (some ⟨pn, 0, none⟩), .int .i64 f, .int .i64 t] w (Lend3 pn pa pb n1 n2 n3 a1 a2 a3 b1 b2 b3 (Kn.set f x) Vn Cn (Ka.take kk) Va (Ca.take (kk + 1)) (insAt Kb 0 z) Vb (insAt Cb 0 y) w) := by
  obtain ⟨an1, cn1, an2, cn2, an3, cn3, rfl, rfl, rfl, ln1, ln2, ln3, mn1, mn2, mn3⟩ := hn.forms
  obtain ⟨aa1, ca1, aa2, ca2, aa3, ca3, rfl, rfl, rfl, la1, la2, la3, ma1, ma2, ma3⟩ := ha.forms
  obtain ⟨ab1, cb1, ab2, cb2, ab3, cb3, rfl, rfl, rfl, lb1, lb2, lb3, mb1, mb2, mb3⟩ := hb.forms
  have T0 := Tri.start hn ha hb hone
  obtain ⟨g3, rfl, kf, _⟩ := hn.kid hf
  obtain ⟨g3', e3, kt, _⟩ := hn.kid ht
  injection e3 with e3
  injection e3 with e3 _
  subst e3
  have hfl := (List.getElem?_eq_some_iff.1 hf).1
  have htl := (List.getElem?_eq_some_iff.1 ht).1
  obtain ⟨ga, rfl, kx, _⟩ := ha.key hx
  obtain ⟨ga3, rfl, ky, _⟩ := ha.kid hy
  obtain ⟨gn, rfl, kz, fz⟩ := hn.key hz
  obtain ⟨Q, hQ⟩ : ∃ Q, Lend3 pn pa pb (.slice (some ⟨gn, 0, none⟩) Kn.length cn1) (.slice an2 Vn.length cn2) (.slice (some ⟨g3, 0, none⟩) Cn.length cn3) (.slice (some ⟨ga, 0, none⟩) Ka.length ca1) (.slice aa2 Va.length ca2) (.slice (some ⟨ga3, 0, none⟩) Ca.length ca3) (.slice ab1 Kb.length cb1) (.slice ab2 Vb.length cb2) (.slice ab3 Cb.length cb3) (Kn.set f x) Vn Cn (Ka.take kk) Va (Ca.take (kk + 1)) (insAt Kb 0 z) Vb (insAt Cb 0 y) w = Q := ⟨_, rfl⟩
  have HQ := Lib.hid hQ
  rw [hQ]
  rw [hA] at T0 la1 hsz
  rw [hCA] at T0 la3 hsz
  generalize ekn : Kn.length = kn at *
  have Hkn := Lib.hid ekn
  clear ekn
  generalize evn : Vn.length = vn at *
  have Hvn := Lib.hid evn
  clear evn
  generalize ecnl : Cn.length = cnl at *
  have Hcnl := Lib.hid ecnl
  clear ecnl
  generalize eval : Va.length = val at *
  have Hval := Lib.hid eval
  clear eval
  generalize ekb : Kb.length = kb at *
  have Hkb := Lib.hid ekb
  clear ekb
  generalize evb : Vb.length = vb at *
  have Hvb := Lib.hid evb
  clear evb
  generalize ecbl : Cb.length = cbl at *
  have Hcbl := Lib.hid ecbl
  clear ecbl
  have hfl' : (f : Int) < cnl := by omega
  have htl' : (t : Int) < cnl := by omega
  have hf0 : (0 : Int) ≤ f := by omega
  have ht0 : (0 : Int) ≤ t := by omega
  obtain ⟨dn0, dn1, dn2, fn0, fn1, fn2⟩ := T0.n.cells
  obtain ⟨da0, da1, da2, fa0, fa1, fa2⟩ := T0.a.cells
  obtain ⟨db0, db1, db2, fb0, fb1, fb2⟩ := T0.b.cells
  have TT := Lib.hid T0
  have HONE := Lib.hid T0.one
  clear hn ha hb hone hf ht hQ fn0 fn1 fn2 fa0 fa1 fa2 fb0 fb1 fb2 T0
  go_enter Try.func62, Try.ntmps62
  go_wp2_with fail
  have HA := Lib.hid hA
  have HCA := Lib.hid hCA
  have HX := Lib.hid hx
  have HZ := Lib.hid hz
  have hfn := (List.getElem?_eq_some_iff.1 hz).1
  have HSZ : Hid (Kb.length ≤ 1000000 ∧ Cb.length ≤ 1000000) := Lib.hid (by have := Hkb.out; have := Hcbl.out; omega)
  have hlpa := TT.out.a.owns
  have hlpn := TT.out.n.owns
  have z0 : ow pb (.slice ab1 kb cb1) (.slice ab2 vb cb2) (.slice ab3 cbl cb3) pn = 0 := by have h1 := HONE.out pn; have h2 := hlpn.1; omega
  have z1 : ow pb (.slice ab1 kb cb1) (.slice ab2 vb cb2) (.slice ab3 cbl cb3) pa = 0 := by have h1 := HONE.out pa; have h2 := hlpa.1; omega
  have z2 : ow pb (.slice ab1 kb cb1) (.slice ab2 vb cb2) (.slice ab3 cbl cb3) gn = 0 := by have h1 := HONE.out gn; have h2 := hlpn.2.1 gn rfl; omega
  have z3 : ow pb (.slice ab1 kb cb1) (.slice ab2 vb cb2) (.slice ab3 cbl cb3) ga3 = 0 := by have h1 := HONE.out ga3; have h2 := hlpa.2.2.2 ga3 rfl; omega
  have HLF := Lib.hid (show Calls Try.prog 38 #[.pointer (some ⟨pa, 0, none⟩)] w.drew fun e w' => e = .returned (.bool false) ∧ w.drew = w' from by have := leaf_any TT.out.a.drew; rwa [show Ca.isEmpty = false from by cases Ca with | nil => simp at hCA | cons _ _ => rfl] at this)
  have HST := (St.start TT.out.b (fun k => by have := HONE.out k; omega)).drew.drew
  have hkk1 : kk ≤ ca1 := by omega
  have hkk2 : kk + 1 ≤ ca3 := by omega
  have hkk0 : (0 : Int) ≤ kk := by omega
  have hkk3 : (kk : Int) < (kk : Int) + 1 := by omega
  have hkk4 : (kk : Int) ≤ (kk : Int) + 1 := by omega
  have hkk5 : (0 : Int) ≤ (kk : Int) + 1 := by omega
  have hkk6 : (kk : Int) + 1 < (kk : Int) + 2 := by omega
  have hkk7 : ((kk : Int) + 1).toNat = kk + 1 := by omega
  have hkk8 : (kk : Int) + 1 ≤ (kk : Int) + 2 := by omega
  have hkk9 : IntKind.i64.wrap ((kk : Int) + 1) = (kk : Int) + 1 := IntWalk.i64_in _ (by omega)
  have hfn' : (f : Int) < kn := by have := Hkn.out; omega
  have ma1' : (ca1 : Int) ≤ 9223372036854775807 := by omega
  have ma2' : (ca3 : Int) ≤ 9223372036854775807 := by omega
  clear hA hCA hx hz hlpa hlpn hfn
  refine wp_region_noPanic ?_
  refine wp_region_J (S := fun u : World => u.cell? ⟨pn, 2, none⟩ = some (.slice (some ⟨g3, 0, none⟩) cnl cn3) ∧ u.cell? ⟨g3, f, none⟩ = some (.pointer (some ⟨pa, 0, none⟩)) ∧ u.cell? ⟨g3, t, none⟩ = some (.pointer (some ⟨pb, 0, none⟩))) (fun _ => false) (by kernel_rfl) ?_
  have hHeld : (fun u : World => u.cell? ⟨pn, 2, none⟩ = some (.slice (some ⟨g3, 0, none⟩) cnl cn3) ∧ u.cell? ⟨g3, f, none⟩ = some (.pointer (some ⟨pa, 0, none⟩)) ∧ u.cell? ⟨g3, t, none⟩ = some (.pointer (some ⟨pb, 0, none⟩))) w.drew := ⟨dn2, kf, kt⟩
  refine wpAnyJ_take0 (i := 0) (v := ?_) rfl (by kernel_rfl) (by kernel_rfl) (by kernel_rfl) (fun _ _ _ h => h) (Or.inl ⟨by rfl, ?_⟩) ?_
  rotate_left
  focus ((intro w hSw; clear hSw; go_simp); try with_reducible rfl)
  (try simp only [Act.put, List.getElem_toArray, List.getElem_cons_zero, List.getElem_cons_succ, List.setIfInBounds_toArray, List.set_cons_zero, List.set_cons_succ])
  refine wpAnyJ_take0 (i := 1) (v := ?_) rfl (by kernel_rfl) (by kernel_rfl) (by kernel_rfl) (fun _ _ _ h => h) (Or.inl ⟨by rfl, ?_⟩) ?_
  rotate_left
  focus ((intro w hSw; clear hSw; go_simp); try with_reducible rfl)
  (try simp only [Act.put, List.getElem_toArray, List.getElem_cons_zero, List.getElem_cons_succ, List.setIfInBounds_toArray, List.set_cons_zero, List.set_cons_succ])
  refine wpAnyJ_take0 (i := 2) (v := ?_) rfl (by kernel_rfl) (by kernel_rfl) (by kernel_rfl) (fun _ _ _ h => h) (Or.inl ⟨by rfl, ?_⟩) ?_
  rotate_left
  focus ((intro w hSw; clear hSw; go_simp); try with_reducible rfl)
  (try simp only [Act.put, List.getElem_toArray, List.getElem_cons_zero, List.getElem_cons_succ, List.setIfInBounds_toArray, List.set_cons_zero, List.set_cons_succ])
  refine wpAnyJ_take (i := 3) (v := ?_) rfl (by kernel_rfl) (by kernel_rfl) (by kernel_rfl) (by kernel_rfl) (fun _ _ _ h => h) (Or.inl ⟨by rfl, ?_⟩) (by assumption) ?_
  rotate_left
  focus ((intro w hSw; (try dsimp only at hSw); go_simp); try with_reducible rfl)
  (try simp only [Act.put, List.getElem_toArray, List.getElem_cons_zero, List.getElem_cons_succ, List.setIfInBounds_toArray, List.set_cons_zero, List.set_cons_succ])
  refine wpAnyJ_take0 (i := 4) (v := ?_) rfl (by kernel_rfl) (by kernel_rfl) (by kernel_rfl) (fun _ _ _ h => h) (Or.inl ⟨by rfl, ?_⟩) ?_
  rotate_left
  focus ((intro w hSw; clear hSw; go_simp); try with_reducible rfl)
  (try simp only [Act.put, List.getElem_toArray, List.getElem_cons_zero, List.getElem_cons_succ, List.setIfInBounds_toArray, List.set_cons_zero, List.set_cons_succ])
  refine wpAnyJ_take0 (i := 5) (v := ?_) rfl (by kernel_rfl) (by kernel_rfl) (by kernel_rfl) (fun _ _ _ h => h) (Or.inl ⟨by rfl, ?_⟩) ?_
  rotate_left
  focus ((intro w hSw; clear hSw; go_simp); try with_reducible rfl)
  (try simp only [Act.put, List.getElem_toArray, List.getElem_cons_zero, List.getElem_cons_succ, List.setIfInBounds_toArray, List.set_cons_zero, List.set_cons_succ])
  refine wpAnyJ_take (i := 6) (v := ?_) rfl (by kernel_rfl) (by kernel_rfl) (by kernel_rfl) (by kernel_rfl) (fun _ _ _ h => h) (Or.inl ⟨by rfl, ?_⟩) (by assumption) ?_
  rotate_left
  focus ((intro w hSw; (try dsimp only at hSw); go_simp); try with_reducible rfl)
  (try simp only [Act.put, List.getElem_toArray, List.getElem_cons_zero, List.getElem_cons_succ, List.setIfInBounds_toArray, List.set_cons_zero, List.set_cons_succ])
  refine wpAnyJ_take0 (i := 7) (v := ?_) rfl (by kernel_rfl) (by kernel_rfl) (by kernel_rfl) (fun _ _ _ h => h) (Or.inl ⟨by rfl, ?_⟩) ?_
  rotate_left
  focus ((intro w hSw; clear hSw; go_simp); try with_reducible rfl)
  (try simp only [Act.put, List.getElem_toArray, List.getElem_cons_zero, List.getElem_cons_succ, List.setIfInBounds_toArray, List.set_cons_zero, List.set_cons_succ])
  refine wpAnyJ_take0 (i := 8) (v := ?_) rfl (by kernel_rfl) (by kernel_rfl) (by kernel_rfl) (fun _ _ _ h => h) (Or.inl ⟨by rfl, ?_⟩) ?_
  rotate_left
  focus ((intro w hSw; clear hSw; go_simp); try with_reducible rfl)
  (try simp only [Act.put, List.getElem_toArray, List.getElem_cons_zero, List.getElem_cons_succ, List.setIfInBounds_toArray, List.set_cons_zero, List.set_cons_succ])
  refine wpAnyJ_take0 (i := 9) (v := ?_) rfl (by kernel_rfl) (by kernel_rfl) (by kernel_rfl) (fun _ _ _ h => h) (Or.inl ⟨by rfl, ?_⟩) ?_
  rotate_left
  focus ((intro w hSw; clear hSw; go_simp); try with_reducible rfl)
  (try simp only [Act.put, List.getElem_toArray, List.getElem_cons_zero, List.getElem_cons_succ, List.setIfInBounds_toArray, List.set_cons_zero, List.set_cons_succ])
  refine wpAnyJ_take (i := 10) (v := ?_) rfl (by kernel_rfl) (by kernel_rfl) (by kernel_rfl) (by kernel_rfl) (fun _ _ _ h => h) (Or.inl ⟨by rfl, ?_⟩) (by assumption) ?_
  rotate_left
  focus ((intro w hSw; (try dsimp only at hSw); go_simp); try with_reducible rfl)
  (try simp only [Act.put, List.getElem_toArray, List.getElem_cons_zero, List.getElem_cons_succ, List.setIfInBounds_toArray, List.set_cons_zero, List.set_cons_succ])
  refine wpAnyJ_take0 (i := 11) (v := ?_) rfl (by kernel_rfl) (by kernel_rfl) (by kernel_rfl) (fun _ _ _ h => h) (Or.inl ⟨by rfl, ?_⟩) ?_
  rotate_left
  focus ((intro w hSw; clear hSw; go_simp); try with_reducible rfl)
  (try simp only [Act.put, List.getElem_toArray, List.getElem_cons_zero, List.getElem_cons_succ, List.setIfInBounds_toArray, List.set_cons_zero, List.set_cons_succ])
  refine wpAnyJ_take0 (i := 12) (v := ?_) rfl (by kernel_rfl) (by kernel_rfl) (by kernel_rfl) (fun _ _ _ h => h) (Or.inl ⟨by rfl, ?_⟩) ?_
  rotate_left
  focus ((intro w hSw; clear hSw; go_simp); try with_reducible rfl)
  (try simp only [Act.put, List.getElem_toArray, List.getElem_cons_zero, List.getElem_cons_succ, List.setIfInBounds_toArray, List.set_cons_zero, List.set_cons_succ])
  refine wpAnyJ_take (i := 13) (v := ?_) rfl (by kernel_rfl) (by kernel_rfl) (by kernel_rfl) (by kernel_rfl) (fun _ _ _ h => h) (Or.inl ⟨by rfl, ?_⟩) (by assumption) ?_
  rotate_left
  focus ((intro w hSw; (try dsimp only at hSw); go_simp); try with_reducible rfl)
  (try simp only [Act.put, List.getElem_toArray, List.getElem_cons_zero, List.getElem_cons_succ, List.setIfInBounds_toArray, List.set_cons_zero, List.set_cons_succ])
  refine wpAnyJ_take0 (i := 14) (v := ?_) rfl (by kernel_rfl) (by kernel_rfl) (by kernel_rfl) (fun _ _ _ h => h) (Or.inl ⟨by rfl, ?_⟩) ?_
  rotate_left
  focus ((intro w hSw; clear hSw; go_simp); try with_reducible rfl)
  (try simp only [Act.put, List.getElem_toArray, List.getElem_cons_zero, List.getElem_cons_succ, List.setIfInBounds_toArray, List.set_cons_zero, List.set_cons_succ])
  refine wpAnyJ_take0 (i := 15) (v := ?_) rfl (by kernel_rfl) (by kernel_rfl) (by kernel_rfl) (fun _ _ _ h => h) (Or.inl ⟨by rfl, ?_⟩) ?_
  rotate_left
  focus ((intro w hSw; clear hSw; go_simp); try with_reducible rfl)
  (try simp only [Act.put, List.getElem_toArray, List.getElem_cons_zero, List.getElem_cons_succ, List.setIfInBounds_toArray, List.set_cons_zero, List.set_cons_succ])
  refine wpAnyJ_done (by kernel_rfl) ?_ _
  refine NoPanic.normal ?_
  go_wp2_with fail
  refine HLF.out.mono ?_
  rintro e w' ⟨rfl, rfl⟩
  clear HLF dn1 dn2 db0 db1 db2 kf kt
  go_wp2_with fail
  refine wp_region_noPanic ?_
  refine wp_region_J (S := fun u : World => u.cell? ⟨pb, 0, none⟩ = some (.slice ab1 kb cb1) ∧ u.cell? ⟨pb, 2, none⟩ = some (.slice ab3 cbl cb3) ∧ u.cell? ⟨pn, 0, none⟩ = some (.slice (some ⟨gn, 0, none⟩) kn cn1) ∧ u.cell? ⟨gn, f, none⟩ = some (.string z) ∧ u.cell? ⟨pa, 2, none⟩ = some (.slice (some ⟨ga3, 0, none⟩) (kk + 2) ca3) ∧ u.cell? ⟨ga3, kk + 1, none⟩ = some (.pointer (some ⟨y, 0, none⟩))) (fun j => j == 31 || j == 34) (by kernel_rfl) ?_
  obtain ⟨u0, hu0⟩ : ∃ u, w.drew.drew = u := ⟨_, rfl⟩
  rw [hu0] at HST ⊢
  clear hu0
  have hHeld : (fun u : World => u.cell? ⟨pb, 0, none⟩ = some (.slice ab1 kb cb1) ∧ u.cell? ⟨pb, 2, none⟩ = some (.slice ab3 cbl cb3) ∧ u.cell? ⟨pn, 0, none⟩ = some (.slice (some ⟨gn, 0, none⟩) kn cn1) ∧ u.cell? ⟨gn, f, none⟩ = some (.string z) ∧ u.cell? ⟨pa, 2, none⟩ = some (.slice (some ⟨ga3, 0, none⟩) (kk + 2) ca3) ∧ u.cell? ⟨ga3, kk + 1, none⟩ = some (.pointer (some ⟨y, 0, none⟩))) u0 := ⟨HST.cell.1, HST.cell.2.2.1, HST.other dn0 z0, HST.other kz z2, HST.other da2 z1, HST.other ky z3⟩
  refine wpAnyJ_take0 (i := 0) (v := ?_) rfl (by kernel_rfl) (by kernel_rfl) (by kernel_rfl) (fun _ _ _ h => h) (Or.inl ⟨by rfl, ?_⟩) ?_
  rotate_left
  focus ((intro w hSw; clear hSw; go_simp); try with_reducible rfl)
  (try simp only [Act.put, List.getElem_toArray, List.getElem_cons_zero, List.getElem_cons_succ, List.setIfInBounds_toArray, List.set_cons_zero, List.set_cons_succ])
  refine wpAnyJ_take0 (i := 1) (v := ?_) rfl (by kernel_rfl) (by kernel_rfl) (by kernel_rfl) (fun _ _ _ h => h) (Or.inl ⟨by rfl, ?_⟩) ?_
  rotate_left
  focus ((intro w hSw; clear hSw; go_simp); try with_reducible rfl)
  (try simp only [Act.put, List.getElem_toArray, List.getElem_cons_zero, List.getElem_cons_succ, List.setIfInBounds_toArray, List.set_cons_zero, List.set_cons_succ])
  refine wpAnyJ_take0 (i := 2) (v := ?_) rfl (by kernel_rfl) (by kernel_rfl) (by kernel_rfl) (fun _ _ _ h => h) (Or.inl ⟨by rfl, ?_⟩) ?_
  rotate_left
  focus ((intro w hSw; clear hSw; go_simp); try with_reducible rfl)
  (try simp only [Act.put, List.getElem_toArray, List.getElem_cons_zero, List.getElem_cons_succ, List.setIfInBounds_toArray, List.set_cons_zero, List.set_cons_succ])
  refine wpAnyJ_take0 (i := 3) (v := ?_) rfl (by kernel_rfl) (by kernel_rfl) (by kernel_rfl) (fun _ _ _ h => h) (Or.inl ⟨by rfl, ?_⟩) ?_
  rotate_left
  focus ((intro w hSw; clear hSw; go_simp); try with_reducible rfl)
  (try simp only [Act.put, List.getElem_toArray, List.getElem_cons_zero, List.getElem_cons_succ, List.setIfInBounds_toArray, List.set_cons_zero, List.set_cons_succ])
  refine wpAnyJ_take0 (i := 4) (v := ?_) rfl (by kernel_rfl) (by kernel_rfl) (by kernel_rfl) (fun _ _ _ h => h) (Or.inl ⟨by rfl, ?_⟩) ?_
  rotate_left
  focus ((intro w hSw; clear hSw; go_simp); try with_reducible rfl)
  (try simp only [Act.put, List.getElem_toArray, List.getElem_cons_zero, List.getElem_cons_succ, List.setIfInBounds_toArray, List.set_cons_zero, List.set_cons_succ])
  refine wpAnyJ_take (i := 5) (v := ?_) rfl (by kernel_rfl) (by kernel_rfl) (by kernel_rfl) (by kernel_rfl) (fun _ _ _ h => h) (Or.inl ⟨by rfl, ?_⟩) (by assumption) ?_
  rotate_left
  focus ((intro w hSw; (try dsimp only at hSw); go_simp); try with_reducible rfl)
  (try simp only [Act.put, List.getElem_toArray, List.getElem_cons_zero, List.getElem_cons_succ, List.setIfInBounds_toArray, List.set_cons_zero, List.set_cons_succ])
  refine wpAnyJ_take0 (i := 6) (v := ?_) rfl (by kernel_rfl) (by kernel_rfl) (by kernel_rfl) (fun _ _ _ h => h) (Or.inl ⟨by rfl, ?_⟩) ?_
  rotate_left
  focus ((intro w hSw; clear hSw; go_simp); try with_reducible rfl)
  (try simp only [Act.put, List.getElem_toArray, List.getElem_cons_zero, List.getElem_cons_succ, List.setIfInBounds_toArray, List.set_cons_zero, List.set_cons_succ])
  refine wpAnyJ_take0 (i := 7) (v := ?_) rfl (by kernel_rfl) (by kernel_rfl) (by kernel_rfl) (fun _ _ _ h => h) (Or.inl ⟨by rfl, ?_⟩) ?_
  rotate_left
  focus ((intro w hSw; clear hSw; go_simp); try with_reducible rfl)
  (try simp only [Act.put, List.getElem_toArray, List.getElem_cons_zero, List.getElem_cons_succ, List.setIfInBounds_toArray, List.set_cons_zero, List.set_cons_succ])
  refine wpAnyJ_take0 (i := 8) (v := ?_) rfl (by kernel_rfl) (by kernel_rfl) (by kernel_rfl) (fun _ _ _ h => h) (Or.inl ⟨by rfl, ?_⟩) ?_
  rotate_left
  focus ((intro w hSw; clear hSw; go_simp); try with_reducible rfl)
  (try simp only [Act.put, List.getElem_toArray, List.getElem_cons_zero, List.getElem_cons_succ, List.setIfInBounds_toArray, List.set_cons_zero, List.set_cons_succ])
  refine wpAnyJ_take (i := 9) (v := ?_) rfl (by kernel_rfl) (by kernel_rfl) (by kernel_rfl) (by kernel_rfl) (fun _ _ _ h => h) (Or.inl ⟨by rfl, ?_⟩) (by assumption) ?_
  rotate_left
  focus ((intro w hSw; (try dsimp only at hSw); go_simp); try with_reducible rfl)
  (try simp only [Act.put, List.getElem_toArray, List.getElem_cons_zero, List.getElem_cons_succ, List.setIfInBounds_toArray, List.set_cons_zero, List.set_cons_succ])
  refine wpAnyJ_take0 (i := 10) (v := ?_) rfl (by kernel_rfl) (by kernel_rfl) (by kernel_rfl) (fun _ _ _ h => h) (Or.inl ⟨by rfl, ?_⟩) ?_
  rotate_left
  focus ((intro w hSw; clear hSw; go_simp); try with_reducible rfl)
  (try simp only [Act.put, List.getElem_toArray, List.getElem_cons_zero, List.getElem_cons_succ, List.setIfInBounds_toArray, List.set_cons_zero, List.set_cons_succ])
  refine wpAnyJ_take0 (i := 11) (v := ?_) rfl (by kernel_rfl) (by kernel_rfl) (by kernel_rfl) (fun _ _ _ h => h) (Or.inl ⟨by rfl, ?_⟩) ?_
  rotate_left
  focus ((intro w hSw; clear hSw; go_simp); try with_reducible rfl)
  (try simp only [Act.put, List.getElem_toArray, List.getElem_cons_zero, List.getElem_cons_succ, List.setIfInBounds_toArray, List.set_cons_zero, List.set_cons_succ])
  refine wpAnyJ_take (i := 12) (v := ?_) rfl (by kernel_rfl) (by kernel_rfl) (by kernel_rfl) (by kernel_rfl) (fun _ _ _ h => h) (Or.inl ⟨by rfl, ?_⟩) (by assumption) ?_
  rotate_left
  focus ((intro w hSw; (try dsimp only at hSw); go_simp); try with_reducible rfl)
  (try simp only [Act.put, List.getElem_toArray, List.getElem_cons_zero, List.getElem_cons_succ, List.setIfInBounds_toArray, List.set_cons_zero, List.set_cons_succ])
  refine wpAnyJ_take0 (i := 15) (v := ?_) rfl (by kernel_rfl) (by kernel_rfl) (by kernel_rfl) (fun _ _ _ h => h) (Or.inl ⟨by rfl, ?_⟩) ?_
  rotate_left
  focus ((intro w hSw; clear hSw; go_simp); try with_reducible rfl)
  (try simp only [Act.put, List.getElem_toArray, List.getElem_cons_zero, List.getElem_cons_succ, List.setIfInBounds_toArray, List.set_cons_zero, List.set_cons_succ])
  refine wpAnyJ_take0 (i := 16) (v := ?_) rfl (by kernel_rfl) (by kernel_rfl) (by kernel_rfl) (fun _ _ _ h => h) (Or.inl ⟨by rfl, ?_⟩) ?_
  rotate_left
  focus ((intro w hSw; clear hSw; go_simp); try with_reducible rfl)
  (try simp only [Act.put, List.getElem_toArray, List.getElem_cons_zero, List.getElem_cons_succ, List.setIfInBounds_toArray, List.set_cons_zero, List.set_cons_succ])
  refine wpAnyJ_take0 (i := 17) (v := ?_) rfl (by kernel_rfl) (by kernel_rfl) (by kernel_rfl) (fun _ _ _ h => h) (Or.inl ⟨by rfl, ?_⟩) ?_
  rotate_left
  focus ((intro w hSw; clear hSw; go_simp); try with_reducible rfl)
  (try simp only [Act.put, List.getElem_toArray, List.getElem_cons_zero, List.getElem_cons_succ, List.setIfInBounds_toArray, List.set_cons_zero, List.set_cons_succ])
  refine wpAnyJ_take (i := 18) (v := ?_) rfl (by kernel_rfl) (by kernel_rfl) (by kernel_rfl) (by kernel_rfl) (fun _ _ _ h => h) (Or.inl ⟨by rfl, ?_⟩) (by assumption) ?_
  rotate_left
  focus ((intro w hSw; (try dsimp only at hSw); go_simp); try with_reducible rfl)
  (try simp only [Act.put, List.getElem_toArray, List.getElem_cons_zero, List.getElem_cons_succ, List.setIfInBounds_toArray, List.set_cons_zero, List.set_cons_succ])
  refine wpAnyJ_take0 (i := 19) (v := ?_) rfl (by kernel_rfl) (by kernel_rfl) (by kernel_rfl) (fun _ _ _ h => h) (Or.inl ⟨by rfl, ?_⟩) ?_
  rotate_left
  focus ((intro w hSw; clear hSw; go_simp); try with_reducible rfl)
  (try simp only [Act.put, List.getElem_toArray, List.getElem_cons_zero, List.getElem_cons_succ, List.setIfInBounds_toArray, List.set_cons_zero, List.set_cons_succ])
  refine wpAnyJ_take0 (i := 20) (v := ?_) rfl (by kernel_rfl) (by kernel_rfl) (by kernel_rfl) (fun _ _ _ h => h) (Or.inl ⟨by rfl, ?_⟩) ?_
  rotate_left
  focus ((intro w hSw; clear hSw; go_simp); try with_reducible rfl)
  (try simp only [Act.put, List.getElem_toArray, List.getElem_cons_zero, List.getElem_cons_succ, List.setIfInBounds_toArray, List.set_cons_zero, List.set_cons_succ])
  refine wpAnyJ_take0 (i := 21) (v := ?_) rfl (by kernel_rfl) (by kernel_rfl) (by kernel_rfl) (fun _ _ _ h => h) (Or.inl ⟨by rfl, ?_⟩) ?_
  rotate_left
  focus ((intro w hSw; clear hSw; go_simp); try with_reducible rfl)
  (try simp only [Act.put, List.getElem_toArray, List.getElem_cons_zero, List.getElem_cons_succ, List.setIfInBounds_toArray, List.set_cons_zero, List.set_cons_succ])
  refine wpAnyJ_take (i := 22) (v := ?_) rfl (by kernel_rfl) (by kernel_rfl) (by kernel_rfl) (by kernel_rfl) (fun _ _ _ h => h) (Or.inl ⟨by rfl, ?_⟩) (by assumption) ?_
  rotate_left
  focus ((intro w hSw; (try dsimp only at hSw); go_simp); try with_reducible rfl)
  (try simp only [Act.put, List.getElem_toArray, List.getElem_cons_zero, List.getElem_cons_succ, List.setIfInBounds_toArray, List.set_cons_zero, List.set_cons_succ])
  refine wpAnyJ_take0 (i := 23) (v := ?_) rfl (by kernel_rfl) (by kernel_rfl) (by kernel_rfl) (fun _ _ _ h => h) (Or.inl ⟨by rfl, ?_⟩) ?_
  rotate_left
  focus ((intro w hSw; clear hSw; go_simp); try with_reducible rfl)
  (try simp only [Act.put, List.getElem_toArray, List.getElem_cons_zero, List.getElem_cons_succ, List.setIfInBounds_toArray, List.set_cons_zero, List.set_cons_succ])
  refine wpAnyJ_take0 (i := 24) (v := ?_) rfl (by kernel_rfl) (by kernel_rfl) (by kernel_rfl) (fun _ _ _ h => h) (Or.inl ⟨by rfl, ?_⟩) ?_
  rotate_left
  focus ((intro w hSw; clear hSw; go_simp); try with_reducible rfl)
  (try simp only [Act.put, List.getElem_toArray, List.getElem_cons_zero, List.getElem_cons_succ, List.setIfInBounds_toArray, List.set_cons_zero, List.set_cons_succ])
  refine wpAnyJ_take0 (i := 25) (v := ?_) rfl (by kernel_rfl) (by kernel_rfl) (by kernel_rfl) (fun _ _ _ h => h) (Or.inl ⟨by rfl, ?_⟩) ?_
  rotate_left
  focus ((intro w hSw; clear hSw; go_simp); try with_reducible rfl)
  (try simp only [Act.put, List.getElem_toArray, List.getElem_cons_zero, List.getElem_cons_succ, List.setIfInBounds_toArray, List.set_cons_zero, List.set_cons_succ])
  refine wpAnyJ_take (i := 26) (v := ?_) rfl (by kernel_rfl) (by kernel_rfl) (by kernel_rfl) (by kernel_rfl) (fun _ _ _ h => h) (Or.inl ⟨by rfl, ?_⟩) (by assumption) ?_
  rotate_left
  focus ((intro w hSw; (try dsimp only at hSw); go_simp); try with_reducible rfl)
  (try simp only [Act.put, List.getElem_toArray, List.getElem_cons_zero, List.getElem_cons_succ, List.setIfInBounds_toArray, List.set_cons_zero, List.set_cons_succ])
  refine wpAnyJ_ready (rs := [13, 27]) (by kernel_rfl) (by simp) ?_
  refine AllReadyJ.cons rfl (fun KK hKK => ?_) (AllReadyJ.cons rfl (fun KK hKK => ?_) AllReadyJ.nil)
  · go_simp
    replace HST := HST.alloc (.string z) 9
    have hH2 : (fun u : World => u.cell? ⟨pb, 0, none⟩ = some (.slice ab1 kb cb1) ∧ u.cell? ⟨pb, 2, none⟩ = some (.slice ab3 cbl cb3) ∧ u.cell? ⟨pn, 0, none⟩ = some (.slice (some ⟨gn, 0, none⟩) kn cn1) ∧ u.cell? ⟨gn, f, none⟩ = some (.string z) ∧ u.cell? ⟨pa, 2, none⟩ = some (.slice (some ⟨ga3, 0, none⟩) (kk + 2) ca3) ∧ u.cell? ⟨ga3, kk + 1, none⟩ = some (.pointer (some ⟨y, 0, none⟩))) (u0.alloc (.cells #[.string z] 9)) := ⟨HST.cell.1, HST.cell.2.2.1, HST.other dn0 z0, HST.other kz z2, HST.other da2 z1, HST.other ky z3⟩
    refine hKK.out _ _ (fun _ _ => hH2) ?_
    clear hKK KK
    generalize u0.heap.size = vb1 at HST ⊢
    generalize u0.alloc (.cells #[.string z] 9) = u1 at HST hH2 ⊢
    clear hHeld
    have hHeld := hH2
    clear hH2
    clear u0
    revert u1
    intro u0 HST hHeld
    (try simp only [Act.put, List.getElem_toArray, List.getElem_cons_zero, List.getElem_cons_succ, List.setIfInBounds_toArray, List.set_cons_zero, List.set_cons_succ])
    refine wpAnyJ_ready (rs := [14, 27]) (by kernel_rfl) (by simp) ?_
    refine AllReadyJ.cons rfl (fun KK hKK => ?_) (AllReadyJ.cons rfl (fun KK hKK => ?_) AllReadyJ.nil)
    · go_simp
      go_at_call 42
      refine (HST.ins1 (vb := vb1) (x := z) (i := 0) (by simp) (Nat.zero_le _) HSZ.out.1).mono ?_
      rintro e u1 ⟨g1, c1, rfl, HST2⟩
      clear HST
      have HST := HST2
      clear HST2
      have hH2 : (fun u : World => u.cell? ⟨pb, 0, none⟩ = some (.slice ab1 kb cb1) ∧ u.cell? ⟨pb, 2, none⟩ = some (.slice ab3 cbl cb3) ∧ u.cell? ⟨pn, 0, none⟩ = some (.slice (some ⟨gn, 0, none⟩) kn cn1) ∧ u.cell? ⟨gn, f, none⟩ = some (.string z) ∧ u.cell? ⟨pa, 2, none⟩ = some (.slice (some ⟨ga3, 0, none⟩) (kk + 2) ca3) ∧ u.cell? ⟨ga3, kk + 1, none⟩ = some (.pointer (some ⟨y, 0, none⟩))) u1 := ⟨HST.cell.1, HST.cell.2.2.1, HST.other dn0 z0, HST.other kz z2, HST.other da2 z1, HST.other ky z3⟩
      refine hKK.out _ _ (fun _ _ => hH2) ?_
      clear hKK KK
      clear hHeld
      have hHeld := hH2
      clear hH2 u0
      revert u1
      intro u0 HST hHeld
      (try simp only [Act.put, List.getElem_toArray, List.getElem_cons_zero, List.getElem_cons_succ, List.setIfInBounds_toArray, List.set_cons_zero, List.set_cons_succ])
      refine wpAnyJ_ready (rs := [27]) (by kernel_rfl) (by simp) ?_
      refine AllReadyJ.cons rfl (fun KK hKK => ?_) AllReadyJ.nil
      go_simp
      replace HST := HST.alloc (.pointer (some ⟨y, 0, none⟩)) 61
      have hH2 : (fun u : World => u.cell? ⟨pb, 0, none⟩ = some (.slice ab1 kb cb1) ∧ u.cell? ⟨pb, 2, none⟩ = some (.slice ab3 cbl cb3) ∧ u.cell? ⟨pn, 0, none⟩ = some (.slice (some ⟨gn, 0, none⟩) kn cn1) ∧ u.cell? ⟨gn, f, none⟩ = some (.string z) ∧ u.cell? ⟨pa, 2, none⟩ = some (.slice (some ⟨ga3, 0, none⟩) (kk + 2) ca3) ∧ u.cell? ⟨ga3, kk + 1, none⟩ = some (.pointer (some ⟨y, 0, none⟩))) (u0.alloc (.cells #[.pointer (some ⟨y, 0, none⟩)] 61)) := ⟨HST.cell.1, HST.cell.2.2.1, HST.other dn0 z0, HST.other kz z2, HST.other da2 z1, HST.other ky z3⟩
      refine hKK.out _ _ (fun _ _ => hH2) ?_
      clear hKK KK
      generalize u0.heap.size = vb2 at HST ⊢
      generalize u0.alloc (.cells #[.pointer (some ⟨y, 0, none⟩)] 61) = u1 at HST hH2 ⊢
      clear hHeld
      have hHeld := hH2
      clear hH2
      clear u0
      revert u1
      intro u0 HST hHeld
      (try simp only [Act.put, List.getElem_toArray, List.getElem_cons_zero, List.getElem_cons_succ, List.setIfInBounds_toArray, List.set_cons_zero, List.set_cons_succ])
      refine wpAnyJ_ready (rs := [28]) (by kernel_rfl) (by simp) ?_
      refine AllReadyJ.cons rfl (fun KK hKK => ?_) AllReadyJ.nil
      go_simp
      go_at_call 44
      refine (HST.ins3 (vb := vb2) (x := y) (i := 0) (by simp [ptrV]) (Nat.zero_le _) HSZ.out.2 0 rfl).mono ?_
      rintro e u1 ⟨g2, c2, rfl, HST2⟩
      clear HST
      have HST := HST2
      clear HST2
      have hH2 : (fun u : World => u.cell? ⟨pb, 0, none⟩ = some (.slice ab1 kb cb1) ∧ u.cell? ⟨pb, 2, none⟩ = some (.slice ab3 cbl cb3) ∧ u.cell? ⟨pn, 0, none⟩ = some (.slice (some ⟨gn, 0, none⟩) kn cn1) ∧ u.cell? ⟨gn, f, none⟩ = some (.string z) ∧ u.cell? ⟨pa, 2, none⟩ = some (.slice (some ⟨ga3, 0, none⟩) (kk + 2) ca3) ∧ u.cell? ⟨ga3, kk + 1, none⟩ = some (.pointer (some ⟨y, 0, none⟩))) u1 := ⟨HST.cell.1, HST.cell.2.2.1, HST.other dn0 z0, HST.other kz z2, HST.other da2 z1, HST.other ky z3⟩
      refine hKK.out _ _ (fun _ _ => hH2) ?_
      clear hKK KK
      clear hHeld
      have hHeld := hH2
      clear hH2 u0
      revert u1
      intro u0 HST hHeld
      (try simp only [Act.put, List.getElem_toArray, List.getElem_cons_zero, List.getElem_cons_succ, List.setIfInBounds_toArray, List.set_cons_zero, List.set_cons_succ])
      refine wpAnyJ_take0 (i := 29) (v := ?_) rfl (by kernel_rfl) (by kernel_rfl) (by kernel_rfl) (fun _ _ _ h => h) (Or.inl ⟨by rfl, ?_⟩) ?_
      rotate_left
      focus ((intro w hSw; clear hSw; go_simp); try with_reducible rfl)
      (try simp only [Act.put, List.getElem_toArray, List.getElem_cons_zero, List.getElem_cons_succ, List.setIfInBounds_toArray, List.set_cons_zero, List.set_cons_succ])
      refine wpAnyJ_take0 (i := 30) (v := ?_) rfl (by kernel_rfl) (by kernel_rfl) (by kernel_rfl) (fun _ _ _ h => h) (Or.inl ⟨by rfl, ?_⟩) ?_
      rotate_left
      focus ((intro w hSw; clear hSw; go_simp); try with_reducible rfl)
      (try simp only [Act.put, List.getElem_toArray, List.getElem_cons_zero, List.getElem_cons_succ, List.setIfInBounds_toArray, List.set_cons_zero, List.set_cons_succ])
      refine wpAnyJ_ready (rs := [31]) (by kernel_rfl) (by simp) ?_
      refine AllReadyJ.cons rfl (fun KK hKK => ?_) AllReadyJ.nil
      have hz1 := HST.cell.2.2.2 0
      have hz2 := HST.cell.1
      go_simp
      clear hz1 hz2
      replace HST := HST.put0 (.slice (some ⟨g1, 0, none⟩) (kb + 1) c1)
      refine hKK.out _ _ (fun h => absurd h (by decide)) ?_
      clear hKK KK
      generalize u0.setCell ⟨pb, 0, none⟩ (.slice (some ⟨g1, 0, none⟩) (kb + 1) c1) = u1 at HST ⊢
      (try clear hHeld)
      clear u0
      revert u1
      intro u0 HST
      (try simp only [Act.put, List.getElem_toArray, List.getElem_cons_zero, List.getElem_cons_succ, List.setIfInBounds_toArray, List.set_cons_zero, List.set_cons_succ])
      refine wpAnyJ_take0 (i := 32) (v := ?_) rfl (by kernel_rfl) (by kernel_rfl) (by kernel_rfl) (fun _ _ _ h => h) (Or.inl ⟨by rfl, ?_⟩) ?_
      rotate_left
      focus ((intro w hSw; clear hSw; go_simp); try with_reducible rfl)
      (try simp only [Act.put, List.getElem_toArray, List.getElem_cons_zero, List.getElem_cons_succ, List.setIfInBounds_toArray, List.set_cons_zero, List.set_cons_succ])
      refine wpAnyJ_take0 (i := 33) (v := ?_) rfl (by kernel_rfl) (by kernel_rfl) (by kernel_rfl) (fun _ _ _ h => h) (Or.inl ⟨by rfl, ?_⟩) ?_
      rotate_left
      focus ((intro w hSw; clear hSw; go_simp); try with_reducible rfl)
      (try simp only [Act.put, List.getElem_toArray, List.getElem_cons_zero, List.getElem_cons_succ, List.setIfInBounds_toArray, List.set_cons_zero, List.set_cons_succ])
      refine wpAnyJ_ready (rs := [34]) (by kernel_rfl) (by simp) ?_
      refine AllReadyJ.cons rfl (fun KK hKK => ?_) AllReadyJ.nil
      have hz1 := HST.cell.2.2.2 2
      have hz2 := HST.cell.2.2.1
      go_simp
      clear hz1 hz2
      replace HST := HST.put2 (.slice (some ⟨g2, 0, none⟩) (cbl + 1) c2)
      refine hKK.out _ _ (fun h => absurd h (by decide)) ?_
      clear hKK KK
      generalize u0.setCell ⟨pb, 2, none⟩ (.slice (some ⟨g2, 0, none⟩) (cbl + 1) c2) = u1 at HST ⊢
      (try clear hHeld)
      clear u0
      revert u1
      intro u0 HST
      (try simp only [Act.put, List.getElem_toArray, List.getElem_cons_zero, List.getElem_cons_succ, List.setIfInBounds_toArray, List.set_cons_zero, List.set_cons_succ])
      refine wpAnyJ_done (by kernel_rfl) ?_ _
      refine NoPanic.normal ?_
      have T1 := TT.out.upd_b HST.end HST.fr
      obtain ⟨_, _, ea1, _, _, fe1⟩ := T1.a.cells
      have T1 := Lib.hid T1
      clear HST
      go_wp2_with fail
      obtain ⟨n2x, f2x⟩ := T1.out.a.cut3 (m := kk + 1) (fun k => by have := T1.out.one k; omega) (by rw [HCA.out]; omega) ⟨ga3, rfl⟩
      have T2 := T1.out.upd_a n2x f2x
      generalize u0.setCell ⟨pa, 2, none⟩ (.slice (some ⟨ga3, 0, none⟩) (kk + 1) (kk + 1)) = u2 at T2 ⊢
      clear n2x f2x ea1 fe1 T1
      obtain ⟨_, e9, kx2, _⟩ := T2.drew.a.key HX.out
      injection e9 with e9
      injection e9 with e9 _
      subst e9
      obtain ⟨_, e9, kz2, fz2⟩ := T2.drew.n.key HZ.out
      injection e9 with e9
      injection e9 with e9 _
      subst e9
      refine wp_region_noPanic ?_
      refine wp_region_J (S := fun u : World => u.cell? ⟨pn, 0, none⟩ = some (.slice (some ⟨gn, 0, none⟩) kn cn1) ∧ u.cell? ⟨pa, 0, none⟩ = some (.slice (some ⟨ga, 0, none⟩) (kk + 1) ca1) ∧ u.cell? ⟨ga, kk, none⟩ = some (.string x)) (fun j => j == 13) (by kernel_rfl) ?_
      have hHeld : (fun u : World => u.cell? ⟨pn, 0, none⟩ = some (.slice (some ⟨gn, 0, none⟩) kn cn1) ∧ u.cell? ⟨pa, 0, none⟩ = some (.slice (some ⟨ga, 0, none⟩) (kk + 1) ca1) ∧ u.cell? ⟨ga, kk, none⟩ = some (.string x)) u2.drew := ⟨T2.drew.n.cells.1, T2.drew.a.cells.1, kx2⟩
      refine wpAnyJ_take0 (i := 0) (v := ?_) rfl (by kernel_rfl) (by kernel_rfl) (by kernel_rfl) (fun _ _ _ h => h) (Or.inl ⟨by rfl, ?_⟩) ?_
      rotate_left
      focus ((intro w hSw; clear hSw; go_simp); try with_reducible rfl)
      (try simp only [Act.put, List.getElem_toArray, List.getElem_cons_zero, List.getElem_cons_succ, List.setIfInBounds_toArray, List.set_cons_zero, List.set_cons_succ])
      refine wpAnyJ_take0 (i := 1) (v := ?_) rfl (by kernel_rfl) (by kernel_rfl) (by kernel_rfl) (fun _ _ _ h => h) (Or.inl ⟨by rfl, ?_⟩) ?_
      rotate_left
      focus ((intro w hSw; clear hSw; go_simp); try with_reducible rfl)
      (try simp only [Act.put, List.getElem_toArray, List.getElem_cons_zero, List.getElem_cons_succ, List.setIfInBounds_toArray, List.set_cons_zero, List.set_cons_succ])
      refine wpAnyJ_take0 (i := 2) (v := ?_) rfl (by kernel_rfl) (by kernel_rfl) (by kernel_rfl) (fun _ _ _ h => h) (Or.inl ⟨by rfl, ?_⟩) ?_
      rotate_left
      focus ((intro w hSw; clear hSw; go_simp); try with_reducible rfl)
      (try simp only [Act.put, List.getElem_toArray, List.getElem_cons_zero, List.getElem_cons_succ, List.setIfInBounds_toArray, List.set_cons_zero, List.set_cons_succ])
      refine wpAnyJ_take (i := 3) (v := ?_) rfl (by kernel_rfl) (by kernel_rfl) (by kernel_rfl) (by kernel_rfl) (fun _ _ _ h => h) (Or.inl ⟨by rfl, ?_⟩) (by assumption) ?_
      rotate_left
      focus ((intro w hSw; (try dsimp only at hSw); go_simp); try with_reducible rfl)
      (try simp only [Act.put, List.getElem_toArray, List.getElem_cons_zero, List.getElem_cons_succ, List.setIfInBounds_toArray, List.set_cons_zero, List.set_cons_succ])
      refine wpAnyJ_take0 (i := 4) (v := ?_) rfl (by kernel_rfl) (by kernel_rfl) (by kernel_rfl) (fun _ _ _ h => h) (Or.inl ⟨by rfl, ?_⟩) ?_
      rotate_left
      focus ((intro w hSw; clear hSw; go_simp); try with_reducible rfl)
      (try simp only [Act.put, List.getElem_toArray, List.getElem_cons_zero, List.getElem_cons_succ, List.setIfInBounds_toArray, List.set_cons_zero, List.set_cons_succ])
      refine wpAnyJ_take0 (i := 5) (v := ?_) rfl (by kernel_rfl) (by kernel_rfl) (by kernel_rfl) (fun _ _ _ h => h) (Or.inl ⟨by rfl, ?_⟩) ?_
      rotate_left
      focus ((intro w hSw; clear hSw; go_simp); try with_reducible rfl)
      (try simp only [Act.put, List.getElem_toArray, List.getElem_cons_zero, List.getElem_cons_succ, List.setIfInBounds_toArray, List.set_cons_zero, List.set_cons_succ])
      refine wpAnyJ_take0 (i := 6) (v := ?_) rfl (by kernel_rfl) (by kernel_rfl) (by kernel_rfl) (fun _ _ _ h => h) (Or.inl ⟨by rfl, ?_⟩) ?_
      rotate_left
      focus ((intro w hSw; clear hSw; go_simp); try with_reducible rfl)
      (try simp only [Act.put, List.getElem_toArray, List.getElem_cons_zero, List.getElem_cons_succ, List.setIfInBounds_toArray, List.set_cons_zero, List.set_cons_succ])
      refine wpAnyJ_take0 (i := 7) (v := ?_) rfl (by kernel_rfl) (by kernel_rfl) (by kernel_rfl) (fun _ _ _ h => h) (Or.inl ⟨by rfl, ?_⟩) ?_
      rotate_left
      focus ((intro w hSw; clear hSw; go_simp); try with_reducible rfl)
      (try simp only [Act.put, List.getElem_toArray, List.getElem_cons_zero, List.getElem_cons_succ, List.setIfInBounds_toArray, List.set_cons_zero, List.set_cons_succ])
      refine wpAnyJ_take (i := 8) (v := ?_) rfl (by kernel_rfl) (by kernel_rfl) (by kernel_rfl) (by kernel_rfl) (fun _ _ _ h => h) (Or.inl ⟨by rfl, ?_⟩) (by assumption) ?_
      rotate_left
      focus ((intro w hSw; (try dsimp only at hSw); go_simp); try with_reducible rfl)
      (try simp only [Act.put, List.getElem_toArray, List.getElem_cons_zero, List.getElem_cons_succ, List.setIfInBounds_toArray, List.set_cons_zero, List.set_cons_succ])
      refine wpAnyJ_take0 (i := 9) (v := ?_) rfl (by kernel_rfl) (by kernel_rfl) (by kernel_rfl) (fun _ _ _ h => h) (Or.inl ⟨by rfl, ?_⟩) ?_
      rotate_left
      focus ((intro w hSw; clear hSw; go_simp); try with_reducible rfl)
      (try simp only [Act.put, List.getElem_toArray, List.getElem_cons_zero, List.getElem_cons_succ, List.setIfInBounds_toArray, List.set_cons_zero, List.set_cons_succ])
      refine wpAnyJ_take0 (i := 10) (v := ?_) rfl (by kernel_rfl) (by kernel_rfl) (by kernel_rfl) (fun _ _ _ h => h) (Or.inl ⟨by rfl, ?_⟩) ?_
      rotate_left
      focus ((intro w hSw; clear hSw; go_simp); try with_reducible rfl)
      (try simp only [Act.put, List.getElem_toArray, List.getElem_cons_zero, List.getElem_cons_succ, List.setIfInBounds_toArray, List.set_cons_zero, List.set_cons_succ])
      refine wpAnyJ_take (i := 11) (v := ?_) rfl (by kernel_rfl) (by kernel_rfl) (by kernel_rfl) (by kernel_rfl) (fun _ _ _ h => h) (Or.inl ⟨by rfl, ?_⟩) (by assumption) ?_
      rotate_left
      focus ((intro w hSw; (try dsimp only at hSw); go_simp); try with_reducible rfl)
      (try simp only [Act.put, List.getElem_toArray, List.getElem_cons_zero, List.getElem_cons_succ, List.setIfInBounds_toArray, List.set_cons_zero, List.set_cons_succ])
      refine wpAnyJ_take0 (i := 12) (v := ?_) rfl (by kernel_rfl) (by kernel_rfl) (by kernel_rfl) (fun _ _ _ h => h) (Or.inl ⟨by rfl, ?_⟩) ?_
      rotate_left
      focus ((intro w hSw; clear hSw; go_simp); try with_reducible rfl)
      (try simp only [Act.put, List.getElem_toArray, List.getElem_cons_zero, List.getElem_cons_succ, List.setIfInBounds_toArray, List.set_cons_zero, List.set_cons_succ])
      refine wpAnyJ_ready (rs := [13]) (by kernel_rfl) (by simp) ?_
      refine AllReadyJ.cons rfl (fun KK hKK => ?_) AllReadyJ.nil
      go_simp
      refine hKK.out _ _ (fun h => absurd h (by decide)) ?_
      clear hKK KK hHeld
      (try simp only [Act.put, List.getElem_toArray, List.getElem_cons_zero, List.getElem_cons_succ, List.setIfInBounds_toArray, List.set_cons_zero, List.set_cons_succ])
      refine wpAnyJ_done (by kernel_rfl) ?_ _
      refine NoPanic.normal ?_
      have h3 := T2.n.set1 (fun k => by have := T2.one k; omega) f x
      have T3 := (T2.upd_n h3.1 h3.2).drew
      generalize (u2.setCell ⟨gn, f, none⟩ (.string x)).drew = u3 at T3 ⊢
      obtain ⟨ea0, _, _, fe0, _, _⟩ := T3.a.cells
      have T3 := Lib.hid T3
      clear T2 h3 kz2 kx2 fz2
      go_wp2_with fail
      rw [← HQ.out]
      obtain ⟨n4, f4⟩ := T3.out.a.cut1 (m := kk) (fun k => by have := T3.out.one k; omega) (by rw [HA.out]; omega) ⟨ga, rfl⟩
      have T4 := T3.out.upd_a n4 f4
      refine ⟨rfl, _, results_none rfl _ _ _, rfl, ?_⟩
      rw [HA.out, HCA.out]
      exact ⟨_, _, _, _, _, _, _, _, _, T4⟩
    · go_simp
      replace HST := HST.alloc (.pointer (some ⟨y, 0, none⟩)) 61
      have hH2 : (fun u : World => u.cell? ⟨pb, 0, none⟩ = some (.slice ab1 kb cb1) ∧ u.cell? ⟨pb, 2, none⟩ = some (.slice ab3 cbl cb3) ∧ u.cell? ⟨pn, 0, none⟩ = some (.slice (some ⟨gn, 0, none⟩) kn cn1) ∧ u.cell? ⟨gn, f, none⟩ = some (.string z) ∧ u.cell? ⟨pa, 2, none⟩ = some (.slice (some ⟨ga3, 0, none⟩) (kk + 2) ca3) ∧ u.cell? ⟨ga3, kk + 1, none⟩ = some (.pointer (some ⟨y, 0, none⟩))) (u0.alloc (.cells #[.pointer (some ⟨y, 0, none⟩)] 61)) := ⟨HST.cell.1, HST.cell.2.2.1, HST.other dn0 z0, HST.other kz z2, HST.other da2 z1, HST.other ky z3⟩
      refine hKK.out _ _ (fun _ _ => hH2) ?_
      clear hKK KK
      generalize u0.heap.size = vb2 at HST ⊢
      generalize u0.alloc (.cells #[.pointer (some ⟨y, 0, none⟩)] 61) = u1 at HST hH2 ⊢
      clear hHeld
      have hHeld := hH2
      clear hH2
      clear u0
      revert u1
      intro u0 HST hHeld
      (try simp only [Act.put, List.getElem_toArray, List.getElem_cons_zero, List.getElem_cons_succ, List.setIfInBounds_toArray, List.set_cons_zero, List.set_cons_succ])
      refine wpAnyJ_ready (rs := [14]) (by kernel_rfl) (by simp) ?_
      refine AllReadyJ.cons rfl (fun KK hKK => ?_) AllReadyJ.nil
      go_simp
      go_at_call 42
      refine (HST.ins1 (vb := vb1) (x := z) (i := 0) (by simp) (Nat.zero_le _) HSZ.out.1).mono ?_
      rintro e u1 ⟨g1, c1, rfl, HST2⟩
      clear HST
      have HST := HST2
      clear HST2
      have hH2 : (fun u : World => u.cell? ⟨pb, 0, none⟩ = some (.slice ab1 kb cb1) ∧ u.cell? ⟨pb, 2, none⟩ = some (.slice ab3 cbl cb3) ∧ u.cell? ⟨pn, 0, none⟩ = some (.slice (some ⟨gn, 0, none⟩) kn cn1) ∧ u.cell? ⟨gn, f, none⟩ = some (.string z) ∧ u.cell? ⟨pa, 2, none⟩ = some (.slice (some ⟨ga3, 0, none⟩) (kk + 2) ca3) ∧ u.cell? ⟨ga3, kk + 1, none⟩ = some (.pointer (some ⟨y, 0, none⟩))) u1 := ⟨HST.cell.1, HST.cell.2.2.1, HST.other dn0 z0, HST.other kz z2, HST.other da2 z1, HST.other ky z3⟩
      refine hKK.out _ _ (fun _ _ => hH2) ?_
      clear hKK KK
      clear hHeld
      have hHeld := hH2
      clear hH2 u0
      revert u1
      intro u0 HST hHeld
      (try simp only [Act.put, List.getElem_toArray, List.getElem_cons_zero, List.getElem_cons_succ, List.setIfInBounds_toArray, List.set_cons_zero, List.set_cons_succ])
      refine wpAnyJ_ready (rs := [28]) (by kernel_rfl) (by simp) ?_
      refine AllReadyJ.cons rfl (fun KK hKK => ?_) AllReadyJ.nil
      go_simp
      go_at_call 44
      refine (HST.ins3 (vb := vb2) (x := y) (i := 0) (by simp [ptrV]) (Nat.zero_le _) HSZ.out.2 0 rfl).mono ?_
      rintro e u1 ⟨g2, c2, rfl, HST2⟩
      clear HST
      have HST := HST2
      clear HST2
      have hH2 : (fun u : World => u.cell? ⟨pb, 0, none⟩ = some (.slice ab1 kb cb1) ∧ u.cell? ⟨pb, 2, none⟩ = some (.slice ab3 cbl cb3) ∧ u.cell? ⟨pn, 0, none⟩ = some (.slice (some ⟨gn, 0, none⟩) kn cn1) ∧ u.cell? ⟨gn, f, none⟩ = some (.string z) ∧ u.cell? ⟨pa, 2, none⟩ = some (.slice (some ⟨ga3, 0, none⟩) (kk + 2) ca3) ∧ u.cell? ⟨ga3, kk + 1, none⟩ = some (.pointer (some ⟨y, 0, none⟩))) u1 := ⟨HST.cell.1, HST.cell.2.2.1, HST.other dn0 z0, HST.other kz z2, HST.other da2 z1, HST.other ky z3⟩
      refine hKK.out _ _ (fun _ _ => hH2) ?_
      clear hKK KK
      clear hHeld
      have hHeld := hH2
      clear hH2 u0
      revert u1
      intro u0 HST hHeld
      (try simp only [Act.put, List.getElem_toArray, List.getElem_cons_zero, List.getElem_cons_succ, List.setIfInBounds_toArray, List.set_cons_zero, List.set_cons_succ])
      refine wpAnyJ_take0 (i := 29) (v := ?_) rfl (by kernel_rfl) (by kernel_rfl) (by kernel_rfl) (fun _ _ _ h => h) (Or.inl ⟨by rfl, ?_⟩) ?_
      rotate_left
      focus ((intro w hSw; clear hSw; go_simp); try with_reducible rfl)
      (try simp only [Act.put, List.getElem_toArray, List.getElem_cons_zero, List.getElem_cons_succ, List.setIfInBounds_toArray, List.set_cons_zero, List.set_cons_succ])
      refine wpAnyJ_take0 (i := 30) (v := ?_) rfl (by kernel_rfl) (by kernel_rfl) (by kernel_rfl) (fun _ _ _ h => h) (Or.inl ⟨by rfl, ?_⟩) ?_
      rotate_left
      focus ((intro w hSw; clear hSw; go_simp); try with_reducible rfl)
      (try simp only [Act.put, List.getElem_toArray, List.getElem_cons_zero, List.getElem_cons_succ, List.setIfInBounds_toArray, List.set_cons_zero, List.set_cons_succ])
      refine wpAnyJ_ready (rs := [31]) (by kernel_rfl) (by simp) ?_
      refine AllReadyJ.cons rfl (fun KK hKK => ?_) AllReadyJ.nil
      have hz1 := HST.cell.2.2.2 0
      have hz2 := HST.cell.1
      go_simp
      clear hz1 hz2
      replace HST := HST.put0 (.slice (some ⟨g1, 0, none⟩) (kb + 1) c1)
      refine hKK.out _ _ (fun h => absurd h (by decide)) ?_
      clear hKK KK
      generalize u0.setCell ⟨pb, 0, none⟩ (.slice (some ⟨g1, 0, none⟩) (kb + 1) c1) = u1 at HST ⊢
      (try clear hHeld)
      clear u0
      revert u1
      intro u0 HST
      (try simp only [Act.put, List.getElem_toArray, List.getElem_cons_zero, List.getElem_cons_succ, List.setIfInBounds_toArray, List.set_cons_zero, List.set_cons_succ])
      refine wpAnyJ_take0 (i := 32) (v := ?_) rfl (by kernel_rfl) (by kernel_rfl) (by kernel_rfl) (fun _ _ _ h => h) (Or.inl ⟨by rfl, ?_⟩) ?_
      rotate_left
      focus ((intro w hSw; clear hSw; go_simp); try with_reducible rfl)
      (try simp only [Act.put, List.getElem_toArray, List.getElem_cons_zero, List.getElem_cons_succ, List.setIfInBounds_toArray, List.set_cons_zero, List.set_cons_succ])
      refine wpAnyJ_take0 (i := 33) (v := ?_) rfl (by kernel_rfl) (by kernel_rfl) (by kernel_rfl) (fun _ _ _ h => h) (Or.inl ⟨by rfl, ?_⟩) ?_
      rotate_left
      focus ((intro w hSw; clear hSw; go_simp); try with_reducible rfl)
      (try simp only [Act.put, List.getElem_toArray, List.getElem_cons_zero, List.getElem_cons_succ, List.setIfInBounds_toArray, List.set_cons_zero, List.set_cons_succ])
      refine wpAnyJ_ready (rs := [34]) (by kernel_rfl) (by simp) ?_
      refine AllReadyJ.cons rfl (fun KK hKK => ?_) AllReadyJ.nil
      have hz1 := HST.cell.2.2.2 2
      have hz2 := HST.cell.2.2.1
      go_simp
      clear hz1 hz2
      replace HST := HST.put2 (.slice (some ⟨g2, 0, none⟩) (cbl + 1) c2)
      refine hKK.out _ _ (fun h => absurd h (by decide)) ?_
      clear hKK KK
      generalize u0.setCell ⟨pb, 2, none⟩ (.slice (some ⟨g2, 0, none⟩) (cbl + 1) c2) = u1 at HST ⊢
      (try clear hHeld)
      clear u0
      revert u1
      intro u0 HST
      (try simp only [Act.put, List.getElem_toArray, List.getElem_cons_zero, List.getElem_cons_succ, List.setIfInBounds_toArray, List.set_cons_zero, List.set_cons_succ])
      refine wpAnyJ_done (by kernel_rfl) ?_ _
      refine NoPanic.normal ?_
      have T1 := TT.out.upd_b HST.end HST.fr
      obtain ⟨_, _, ea1, _, _, fe1⟩ := T1.a.cells
      have T1 := Lib.hid T1
      clear HST
      go_wp2_with fail
      obtain ⟨n2x, f2x⟩ := T1.out.a.cut3 (m := kk + 1) (fun k => by have := T1.out.one k; omega) (by rw [HCA.out]; omega) ⟨ga3, rfl⟩
      have T2 := T1.out.upd_a n2x f2x
      generalize u0.setCell ⟨pa, 2, none⟩ (.slice (some ⟨ga3, 0, none⟩) (kk + 1) (kk + 1)) = u2 at T2 ⊢
      clear n2x f2x ea1 fe1 T1
      obtain ⟨_, e9, kx2, _⟩ := T2.drew.a.key HX.out
      injection e9 with e9
      injection e9 with e9 _
      subst e9
      obtain ⟨_, e9, kz2, fz2⟩ := T2.drew.n.key HZ.out
      injection e9 with e9
      injection e9 with e9 _
      subst e9
      refine wp_region_noPanic ?_
      refine wp_region_J (S := fun u : World => u.cell? ⟨pn, 0, none⟩ = some (.slice (some ⟨gn, 0, none⟩) kn cn1) ∧ u.cell? ⟨pa, 0, none⟩ = some (.slice (some ⟨ga, 0, none⟩) (kk + 1) ca1) ∧ u.cell? ⟨ga, kk, none⟩ = some (.string x)) (fun j => j == 13) (by kernel_rfl) ?_
      have hHeld : (fun u : World => u.cell? ⟨pn, 0, none⟩ = some (.slice (some ⟨gn, 0, none⟩) kn cn1) ∧ u.cell? ⟨pa, 0, none⟩ = some (.slice (some ⟨ga, 0, none⟩) (kk + 1) ca1) ∧ u.cell? ⟨ga, kk, none⟩ = some (.string x)) u2.drew := ⟨T2.drew.n.cells.1, T2.drew.a.cells.1, kx2⟩
      refine wpAnyJ_take0 (i := 0) (v := ?_) rfl (by kernel_rfl) (by kernel_rfl) (by kernel_rfl) (fun _ _ _ h => h) (Or.inl ⟨by rfl, ?_⟩) ?_
      rotate_left
      focus ((intro w hSw; clear hSw; go_simp); try with_reducible rfl)
      (try simp only [Act.put, List.getElem_toArray, List.getElem_cons_zero, List.getElem_cons_succ, List.setIfInBounds_toArray, List.set_cons_zero, List.set_cons_succ])
      refine wpAnyJ_take0 (i := 1) (v := ?_) rfl (by kernel_rfl) (by kernel_rfl) (by kernel_rfl) (fun _ _ _ h => h) (Or.inl ⟨by rfl, ?_⟩) ?_
      rotate_left
      focus ((intro w hSw; clear hSw; go_simp); try with_reducible rfl)
      (try simp only [Act.put, List.getElem_toArray, List.getElem_cons_zero, List.getElem_cons_succ, List.setIfInBounds_toArray, List.set_cons_zero, List.set_cons_succ])
      refine wpAnyJ_take0 (i := 2) (v := ?_) rfl (by kernel_rfl) (by kernel_rfl) (by kernel_rfl) (fun _ _ _ h => h) (Or.inl ⟨by rfl, ?_⟩) ?_
      rotate_left
      focus ((intro w hSw; clear hSw; go_simp); try with_reducible rfl)
      (try simp only [Act.put, List.getElem_toArray, List.getElem_cons_zero, List.getElem_cons_succ, List.setIfInBounds_toArray, List.set_cons_zero, List.set_cons_succ])
      refine wpAnyJ_take (i := 3) (v := ?_) rfl (by kernel_rfl) (by kernel_rfl) (by kernel_rfl) (by kernel_rfl) (fun _ _ _ h => h) (Or.inl ⟨by rfl, ?_⟩) (by assumption) ?_
      rotate_left
      focus ((intro w hSw; (try dsimp only at hSw); go_simp); try with_reducible rfl)
      (try simp only [Act.put, List.getElem_toArray, List.getElem_cons_zero, List.getElem_cons_succ, List.setIfInBounds_toArray, List.set_cons_zero, List.set_cons_succ])
      refine wpAnyJ_take0 (i := 4) (v := ?_) rfl (by kernel_rfl) (by kernel_rfl) (by kernel_rfl) (fun _ _ _ h => h) (Or.inl ⟨by rfl, ?_⟩) ?_
      rotate_left
      focus ((intro w hSw; clear hSw; go_simp); try with_reducible rfl)
      (try simp only [Act.put, List.getElem_toArray, List.getElem_cons_zero, List.getElem_cons_succ, List.setIfInBounds_toArray, List.set_cons_zero, List.set_cons_succ])
      refine wpAnyJ_take0 (i := 5) (v := ?_) rfl (by kernel_rfl) (by kernel_rfl) (by kernel_rfl) (fun _ _ _ h => h) (Or.inl ⟨by rfl, ?_⟩) ?_
      rotate_left
      focus ((intro w hSw; clear hSw; go_simp); try with_reducible rfl)
      (try simp only [Act.put, List.getElem_toArray, List.getElem_cons_zero, List.getElem_cons_succ, List.setIfInBounds_toArray, List.set_cons_zero, List.set_cons_succ])
      refine wpAnyJ_take0 (i := 6) (v := ?_) rfl (by kernel_rfl) (by kernel_rfl) (by kernel_rfl) (fun _ _ _ h => h) (Or.inl ⟨by rfl, ?_⟩) ?_
      rotate_left
      focus ((intro w hSw; clear hSw; go_simp); try with_reducible rfl)
      (try simp only [Act.put, List.getElem_toArray, List.getElem_cons_zero, List.getElem_cons_succ, List.setIfInBounds_toArray, List.set_cons_zero, List.set_cons_succ])
      refine wpAnyJ_take0 (i := 7) (v := ?_) rfl (by kernel_rfl) (by kernel_rfl) (by kernel_rfl) (fun _ _ _ h => h) (Or.inl ⟨by rfl, ?_⟩) ?_
      rotate_left
      focus ((intro w hSw; clear hSw; go_simp); try with_reducible rfl)
      (try simp only [Act.put, List.getElem_toArray, List.getElem_cons_zero, List.getElem_cons_succ, List.setIfInBounds_toArray, List.set_cons_zero, List.set_cons_succ])
      refine wpAnyJ_take (i := 8) (v := ?_) rfl (by kernel_rfl) (by kernel_rfl) (by kernel_rfl) (by kernel_rfl) (fun _ _ _ h => h) (Or.inl ⟨by rfl, ?_⟩) (by assumption) ?_
      rotate_left
      focus ((intro w hSw; (try dsimp only at hSw); go_simp); try with_reducible rfl)
      (try simp only [Act.put, List.getElem_toArray, List.getElem_cons_zero, List.getElem_cons_succ, List.setIfInBounds_toArray, List.set_cons_zero, List.set_cons_succ])
      refine wpAnyJ_take0 (i := 9) (v := ?_) rfl (by kernel_rfl) (by kernel_rfl) (by kernel_rfl) (fun _ _ _ h => h) (Or.inl ⟨by rfl, ?_⟩) ?_
      rotate_left
      focus ((intro w hSw; clear hSw; go_simp); try with_reducible rfl)
      (try simp only [Act.put, List.getElem_toArray, List.getElem_cons_zero, List.getElem_cons_succ, List.setIfInBounds_toArray, List.set_cons_zero, List.set_cons_succ])
      refine wpAnyJ_take0 (i := 10) (v := ?_) rfl (by kernel_rfl) (by kernel_rfl) (by kernel_rfl) (fun _ _ _ h => h) (Or.inl ⟨by rfl, ?_⟩) ?_
      rotate_left
      focus ((intro w hSw; clear hSw; go_simp); try with_reducible rfl)
      (try simp only [Act.put, List.getElem_toArray, List.getElem_cons_zero, List.getElem_cons_succ, List.setIfInBounds_toArray, List.set_cons_zero, List.set_cons_succ])
      refine wpAnyJ_take (i := 11) (v := ?_) rfl (by kernel_rfl) (by kernel_rfl) (by kernel_rfl) (by kernel_rfl) (fun _ _ _ h => h) (Or.inl ⟨by rfl, ?_⟩) (by assumption) ?_
      rotate_left
      focus ((intro w hSw; (try dsimp only at hSw); go_simp); try with_reducible rfl)
      (try simp only [Act.put, List.getElem_toArray, List.getElem_cons_zero, List.getElem_cons_succ, List.setIfInBounds_toArray, List.set_cons_zero, List.set_cons_succ])
      refine wpAnyJ_take0 (i := 12) (v := ?_) rfl (by kernel_rfl) (by kernel_rfl) (by kernel_rfl) (fun _ _ _ h => h) (Or.inl ⟨by rfl, ?_⟩) ?_
      rotate_left
      focus ((intro w hSw; clear hSw; go_simp); try with_reducible rfl)
      (try simp only [Act.put, List.getElem_toArray, List.getElem_cons_zero, List.getElem_cons_succ, List.setIfInBounds_toArray, List.set_cons_zero, List.set_cons_succ])
      refine wpAnyJ_ready (rs := [13]) (by kernel_rfl) (by simp) ?_
      refine AllReadyJ.cons rfl (fun KK hKK => ?_) AllReadyJ.nil
      go_simp
      refine hKK.out _ _ (fun h => absurd h (by decide)) ?_
      clear hKK KK hHeld
      (try simp only [Act.put, List.getElem_toArray, List.getElem_cons_zero, List.getElem_cons_succ, List.setIfInBounds_toArray, List.set_cons_zero, List.set_cons_succ])
      refine wpAnyJ_done (by kernel_rfl) ?_ _
      refine NoPanic.normal ?_
      have h3 := T2.n.set1 (fun k => by have := T2.one k; omega) f x
      have T3 := (T2.upd_n h3.1 h3.2).drew
      generalize (u2.setCell ⟨gn, f, none⟩ (.string x)).drew = u3 at T3 ⊢
      obtain ⟨ea0, _, _, fe0, _, _⟩ := T3.a.cells
      have T3 := Lib.hid T3
      clear T2 h3 kz2 kx2 fz2
      go_wp2_with fail
      rw [← HQ.out]
      obtain ⟨n4, f4⟩ := T3.out.a.cut1 (m := kk) (fun k => by have := T3.out.one k; omega) (by rw [HA.out]; omega) ⟨ga, rfl⟩
      have T4 := T3.out.upd_a n4 f4
      refine ⟨rfl, _, results_none rfl _ _ _, rfl, ?_⟩
      rw [HA.out, HCA.out]
      exact ⟨_, _, _, _, _, _, _, _, _, T4⟩
  · go_simp
    replace HST := HST.alloc (.pointer (some ⟨y, 0, none⟩)) 61
    have hH2 : (fun u : World => u.cell? ⟨pb, 0, none⟩ = some (.slice ab1 kb cb1) ∧ u.cell? ⟨pb, 2, none⟩ = some (.slice ab3 cbl cb3) ∧ u.cell? ⟨pn, 0, none⟩ = some (.slice (some ⟨gn, 0, none⟩) kn cn1) ∧ u.cell? ⟨gn, f, none⟩ = some (.string z) ∧ u.cell? ⟨pa, 2, none⟩ = some (.slice (some ⟨ga3, 0, none⟩) (kk + 2) ca3) ∧ u.cell? ⟨ga3, kk + 1, none⟩ = some (.pointer (some ⟨y, 0, none⟩))) (u0.alloc (.cells #[.pointer (some ⟨y, 0, none⟩)] 61)) := ⟨HST.cell.1, HST.cell.2.2.1, HST.other dn0 z0, HST.other kz z2, HST.other da2 z1, HST.other ky z3⟩
    refine hKK.out _ _ (fun _ _ => hH2) ?_
    clear hKK KK
    generalize u0.heap.size = vb2 at HST ⊢
    generalize u0.alloc (.cells #[.pointer (some ⟨y, 0, none⟩)] 61) = u1 at HST hH2 ⊢
    clear hHeld
    have hHeld := hH2
    clear hH2
    clear u0
    revert u1
    intro u0 HST hHeld
    (try simp only [Act.put, List.getElem_toArray, List.getElem_cons_zero, List.getElem_cons_succ, List.setIfInBounds_toArray, List.set_cons_zero, List.set_cons_succ])
    refine wpAnyJ_ready (rs := [13]) (by kernel_rfl) (by simp) ?_
    refine AllReadyJ.cons rfl (fun KK hKK => ?_) AllReadyJ.nil
    go_simp
    replace HST := HST.alloc (.string z) 9
    have hH2 : (fun u : World => u.cell? ⟨pb, 0, none⟩ = some (.slice ab1 kb cb1) ∧ u.cell? ⟨pb, 2, none⟩ = some (.slice ab3 cbl cb3) ∧ u.cell? ⟨pn, 0, none⟩ = some (.slice (some ⟨gn, 0, none⟩) kn cn1) ∧ u.cell? ⟨gn, f, none⟩ = some (.string z) ∧ u.cell? ⟨pa, 2, none⟩ = some (.slice (some ⟨ga3, 0, none⟩) (kk + 2) ca3) ∧ u.cell? ⟨ga3, kk + 1, none⟩ = some (.pointer (some ⟨y, 0, none⟩))) (u0.alloc (.cells #[.string z] 9)) := ⟨HST.cell.1, HST.cell.2.2.1, HST.other dn0 z0, HST.other kz z2, HST.other da2 z1, HST.other ky z3⟩
    refine hKK.out _ _ (fun _ _ => hH2) ?_
    clear hKK KK
    generalize u0.heap.size = vb1 at HST ⊢
    generalize u0.alloc (.cells #[.string z] 9) = u1 at HST hH2 ⊢
    clear hHeld
    have hHeld := hH2
    clear hH2
    clear u0
    revert u1
    intro u0 HST hHeld
    (try simp only [Act.put, List.getElem_toArray, List.getElem_cons_zero, List.getElem_cons_succ, List.setIfInBounds_toArray, List.set_cons_zero, List.set_cons_succ])
    refine wpAnyJ_ready (rs := [14]) (by kernel_rfl) (by simp) ?_
    refine AllReadyJ.cons rfl (fun KK hKK => ?_) AllReadyJ.nil
    go_simp
    go_at_call 42
    refine (HST.ins1 (vb := vb1) (x := z) (i := 0) (by simp) (Nat.zero_le _) HSZ.out.1).mono ?_
    rintro e u1 ⟨g1, c1, rfl, HST2⟩
    clear HST
    have HST := HST2
    clear HST2
    have hH2 : (fun u : World => u.cell? ⟨pb, 0, none⟩ = some (.slice ab1 kb cb1) ∧ u.cell? ⟨pb, 2, none⟩ = some (.slice ab3 cbl cb3) ∧ u.cell? ⟨pn, 0, none⟩ = some (.slice (some ⟨gn, 0, none⟩) kn cn1) ∧ u.cell? ⟨gn, f, none⟩ = some (.string z) ∧ u.cell? ⟨pa, 2, none⟩ = some (.slice (some ⟨ga3, 0, none⟩) (kk + 2) ca3) ∧ u.cell? ⟨ga3, kk + 1, none⟩ = some (.pointer (some ⟨y, 0, none⟩))) u1 := ⟨HST.cell.1, HST.cell.2.2.1, HST.other dn0 z0, HST.other kz z2, HST.other da2 z1, HST.other ky z3⟩
    refine hKK.out _ _ (fun _ _ => hH2) ?_
    clear hKK KK
    clear hHeld
    have hHeld := hH2
    clear hH2 u0
    revert u1
    intro u0 HST hHeld
    (try simp only [Act.put, List.getElem_toArray, List.getElem_cons_zero, List.getElem_cons_succ, List.setIfInBounds_toArray, List.set_cons_zero, List.set_cons_succ])
    refine wpAnyJ_ready (rs := [28]) (by kernel_rfl) (by simp) ?_
    refine AllReadyJ.cons rfl (fun KK hKK => ?_) AllReadyJ.nil
    go_simp
    go_at_call 44
    refine (HST.ins3 (vb := vb2) (x := y) (i := 0) (by simp [ptrV]) (Nat.zero_le _) HSZ.out.2 0 rfl).mono ?_
    rintro e u1 ⟨g2, c2, rfl, HST2⟩
    clear HST
    have HST := HST2
    clear HST2
    have hH2 : (fun u : World => u.cell? ⟨pb, 0, none⟩ = some (.slice ab1 kb cb1) ∧ u.cell? ⟨pb, 2, none⟩ = some (.slice ab3 cbl cb3) ∧ u.cell? ⟨pn, 0, none⟩ = some (.slice (some ⟨gn, 0, none⟩) kn cn1) ∧ u.cell? ⟨gn, f, none⟩ = some (.string z) ∧ u.cell? ⟨pa, 2, none⟩ = some (.slice (some ⟨ga3, 0, none⟩) (kk + 2) ca3) ∧ u.cell? ⟨ga3, kk + 1, none⟩ = some (.pointer (some ⟨y, 0, none⟩))) u1 := ⟨HST.cell.1, HST.cell.2.2.1, HST.other dn0 z0, HST.other kz z2, HST.other da2 z1, HST.other ky z3⟩
    refine hKK.out _ _ (fun _ _ => hH2) ?_
    clear hKK KK
    clear hHeld
    have hHeld := hH2
    clear hH2 u0
    revert u1
    intro u0 HST hHeld
    (try simp only [Act.put, List.getElem_toArray, List.getElem_cons_zero, List.getElem_cons_succ, List.setIfInBounds_toArray, List.set_cons_zero, List.set_cons_succ])
    refine wpAnyJ_take0 (i := 29) (v := ?_) rfl (by kernel_rfl) (by kernel_rfl) (by kernel_rfl) (fun _ _ _ h => h) (Or.inl ⟨by rfl, ?_⟩) ?_
    rotate_left
    focus ((intro w hSw; clear hSw; go_simp); try with_reducible rfl)
    (try simp only [Act.put, List.getElem_toArray, List.getElem_cons_zero, List.getElem_cons_succ, List.setIfInBounds_toArray, List.set_cons_zero, List.set_cons_succ])
    refine wpAnyJ_take0 (i := 30) (v := ?_) rfl (by kernel_rfl) (by kernel_rfl) (by kernel_rfl) (fun _ _ _ h => h) (Or.inl ⟨by rfl, ?_⟩) ?_
    rotate_left
    focus ((intro w hSw; clear hSw; go_simp); try with_reducible rfl)
    (try simp only [Act.put, List.getElem_toArray, List.getElem_cons_zero, List.getElem_cons_succ, List.setIfInBounds_toArray, List.set_cons_zero, List.set_cons_succ])
    refine wpAnyJ_ready (rs := [31]) (by kernel_rfl) (by simp) ?_
    refine AllReadyJ.cons rfl (fun KK hKK => ?_) AllReadyJ.nil
    have hz1 := HST.cell.2.2.2 0
    have hz2 := HST.cell.1
    go_simp
    clear hz1 hz2
    replace HST := HST.put0 (.slice (some ⟨g1, 0, none⟩) (kb + 1) c1)
    refine hKK.out _ _ (fun h => absurd h (by decide)) ?_
    clear hKK KK
    generalize u0.setCell ⟨pb, 0, none⟩ (.slice (some ⟨g1, 0, none⟩) (kb + 1) c1) = u1 at HST ⊢
    (try clear hHeld)
    clear u0
    revert u1
    intro u0 HST
    (try simp only [Act.put, List.getElem_toArray, List.getElem_cons_zero, List.getElem_cons_succ, List.setIfInBounds_toArray, List.set_cons_zero, List.set_cons_succ])
    refine wpAnyJ_take0 (i := 32) (v := ?_) rfl (by kernel_rfl) (by kernel_rfl) (by kernel_rfl) (fun _ _ _ h => h) (Or.inl ⟨by rfl, ?_⟩) ?_
    rotate_left
    focus ((intro w hSw; clear hSw; go_simp); try with_reducible rfl)
    (try simp only [Act.put, List.getElem_toArray, List.getElem_cons_zero, List.getElem_cons_succ, List.setIfInBounds_toArray, List.set_cons_zero, List.set_cons_succ])
    refine wpAnyJ_take0 (i := 33) (v := ?_) rfl (by kernel_rfl) (by kernel_rfl) (by kernel_rfl) (fun _ _ _ h => h) (Or.inl ⟨by rfl, ?_⟩) ?_
    rotate_left
    focus ((intro w hSw; clear hSw; go_simp); try with_reducible rfl)
    (try simp only [Act.put, List.getElem_toArray, List.getElem_cons_zero, List.getElem_cons_succ, List.setIfInBounds_toArray, List.set_cons_zero, List.set_cons_succ])
    refine wpAnyJ_ready (rs := [34]) (by kernel_rfl) (by simp) ?_
    refine AllReadyJ.cons rfl (fun KK hKK => ?_) AllReadyJ.nil
    have hz1 := HST.cell.2.2.2 2
    have hz2 := HST.cell.2.2.1
    go_simp
    clear hz1 hz2
    replace HST := HST.put2 (.slice (some ⟨g2, 0, none⟩) (cbl + 1) c2)
    refine hKK.out _ _ (fun h => absurd h (by decide)) ?_
    clear hKK KK
    generalize u0.setCell ⟨pb, 2, none⟩ (.slice (some ⟨g2, 0, none⟩) (cbl + 1) c2) = u1 at HST ⊢
    (try clear hHeld)
    clear u0
    revert u1
    intro u0 HST
    (try simp only [Act.put, List.getElem_toArray, List.getElem_cons_zero, List.getElem_cons_succ, List.setIfInBounds_toArray, List.set_cons_zero, List.set_cons_succ])
    refine wpAnyJ_done (by kernel_rfl) ?_ _
    refine NoPanic.normal ?_
    have T1 := TT.out.upd_b HST.end HST.fr
    obtain ⟨_, _, ea1, _, _, fe1⟩ := T1.a.cells
    have T1 := Lib.hid T1
    clear HST
    go_wp2_with fail
    obtain ⟨n2x, f2x⟩ := T1.out.a.cut3 (m := kk + 1) (fun k => by have := T1.out.one k; omega) (by rw [HCA.out]; omega) ⟨ga3, rfl⟩
    have T2 := T1.out.upd_a n2x f2x
    generalize u0.setCell ⟨pa, 2, none⟩ (.slice (some ⟨ga3, 0, none⟩) (kk + 1) (kk + 1)) = u2 at T2 ⊢
    clear n2x f2x ea1 fe1 T1
    obtain ⟨_, e9, kx2, _⟩ := T2.drew.a.key HX.out
    injection e9 with e9
    injection e9 with e9 _
    subst e9
    obtain ⟨_, e9, kz2, fz2⟩ := T2.drew.n.key HZ.out
    injection e9 with e9
    injection e9 with e9 _
    subst e9
    refine wp_region_noPanic ?_
    refine wp_region_J (S := fun u : World => u.cell? ⟨pn, 0, none⟩ = some (.slice (some ⟨gn, 0, none⟩) kn cn1) ∧ u.cell? ⟨pa, 0, none⟩ = some (.slice (some ⟨ga, 0, none⟩) (kk + 1) ca1) ∧ u.cell? ⟨ga, kk, none⟩ = some (.string x)) (fun j => j == 13) (by kernel_rfl) ?_
    have hHeld : (fun u : World => u.cell? ⟨pn, 0, none⟩ = some (.slice (some ⟨gn, 0, none⟩) kn cn1) ∧ u.cell? ⟨pa, 0, none⟩ = some (.slice (some ⟨ga, 0, none⟩) (kk + 1) ca1) ∧ u.cell? ⟨ga, kk, none⟩ = some (.string x)) u2.drew := ⟨T2.drew.n.cells.1, T2.drew.a.cells.1, kx2⟩
    refine wpAnyJ_take0 (i := 0) (v := ?_) rfl (by kernel_rfl) (by kernel_rfl) (by kernel_rfl) (fun _ _ _ h => h) (Or.inl ⟨by rfl, ?_⟩) ?_
    rotate_left
    focus ((intro w hSw; clear hSw; go_simp); try with_reducible rfl)
    (try simp only [Act.put, List.getElem_toArray, List.getElem_cons_zero, List.getElem_cons_succ, List.setIfInBounds_toArray, List.set_cons_zero, List.set_cons_succ])
    refine wpAnyJ_take0 (i := 1) (v := ?_) rfl (by kernel_rfl) (by kernel_rfl) (by kernel_rfl) (fun _ _ _ h => h) (Or.inl ⟨by rfl, ?_⟩) ?_
    rotate_left
    focus ((intro w hSw; clear hSw; go_simp); try with_reducible rfl)
    (try simp only [Act.put, List.getElem_toArray, List.getElem_cons_zero, List.getElem_cons_succ, List.setIfInBounds_toArray, List.set_cons_zero, List.set_cons_succ])
    refine wpAnyJ_take0 (i := 2) (v := ?_) rfl (by kernel_rfl) (by kernel_rfl) (by kernel_rfl) (fun _ _ _ h => h) (Or.inl ⟨by rfl, ?_⟩) ?_
    rotate_left
    focus ((intro w hSw; clear hSw; go_simp); try with_reducible rfl)
    (try simp only [Act.put, List.getElem_toArray, List.getElem_cons_zero, List.getElem_cons_succ, List.setIfInBounds_toArray, List.set_cons_zero, List.set_cons_succ])
    refine wpAnyJ_take (i := 3) (v := ?_) rfl (by kernel_rfl) (by kernel_rfl) (by kernel_rfl) (by kernel_rfl) (fun _ _ _ h => h) (Or.inl ⟨by rfl, ?_⟩) (by assumption) ?_
    rotate_left
    focus ((intro w hSw; (try dsimp only at hSw); go_simp); try with_reducible rfl)
    (try simp only [Act.put, List.getElem_toArray, List.getElem_cons_zero, List.getElem_cons_succ, List.setIfInBounds_toArray, List.set_cons_zero, List.set_cons_succ])
    refine wpAnyJ_take0 (i := 4) (v := ?_) rfl (by kernel_rfl) (by kernel_rfl) (by kernel_rfl) (fun _ _ _ h => h) (Or.inl ⟨by rfl, ?_⟩) ?_
    rotate_left
    focus ((intro w hSw; clear hSw; go_simp); try with_reducible rfl)
    (try simp only [Act.put, List.getElem_toArray, List.getElem_cons_zero, List.getElem_cons_succ, List.setIfInBounds_toArray, List.set_cons_zero, List.set_cons_succ])
    refine wpAnyJ_take0 (i := 5) (v := ?_) rfl (by kernel_rfl) (by kernel_rfl) (by kernel_rfl) (fun _ _ _ h => h) (Or.inl ⟨by rfl, ?_⟩) ?_
    rotate_left
    focus ((intro w hSw; clear hSw; go_simp); try with_reducible rfl)
    (try simp only [Act.put, List.getElem_toArray, List.getElem_cons_zero, List.getElem_cons_succ, List.setIfInBounds_toArray, List.set_cons_zero, List.set_cons_succ])
    refine wpAnyJ_take0 (i := 6) (v := ?_) rfl (by kernel_rfl) (by kernel_rfl) (by kernel_rfl) (fun _ _ _ h => h) (Or.inl ⟨by rfl, ?_⟩) ?_
    rotate_left
    focus ((intro w hSw; clear hSw; go_simp); try with_reducible rfl)
    (try simp only [Act.put, List.getElem_toArray, List.getElem_cons_zero, List.getElem_cons_succ, List.setIfInBounds_toArray, List.set_cons_zero, List.set_cons_succ])
    refine wpAnyJ_take0 (i := 7) (v := ?_) rfl (by kernel_rfl) (by kernel_rfl) (by kernel_rfl) (fun _ _ _ h => h) (Or.inl ⟨by rfl, ?_⟩) ?_
    rotate_left
    focus ((intro w hSw; clear hSw; go_simp); try with_reducible rfl)
    (try simp only [Act.put, List.getElem_toArray, List.getElem_cons_zero, List.getElem_cons_succ, List.setIfInBounds_toArray, List.set_cons_zero, List.set_cons_succ])
    refine wpAnyJ_take (i := 8) (v := ?_) rfl (by kernel_rfl) (by kernel_rfl) (by kernel_rfl) (by kernel_rfl) (fun _ _ _ h => h) (Or.inl ⟨by rfl, ?_⟩) (by assumption) ?_
    rotate_left
    focus ((intro w hSw; (try dsimp only at hSw); go_simp); try with_reducible rfl)
    (try simp only [Act.put, List.getElem_toArray, List.getElem_cons_zero, List.getElem_cons_succ, List.setIfInBounds_toArray, List.set_cons_zero, List.set_cons_succ])
    refine wpAnyJ_take0 (i := 9) (v := ?_) rfl (by kernel_rfl) (by kernel_rfl) (by kernel_rfl) (fun _ _ _ h => h) (Or.inl ⟨by rfl, ?_⟩) ?_
    rotate_left
    focus ((intro w hSw; clear hSw; go_simp); try with_reducible rfl)
    (try simp only [Act.put, List.getElem_toArray, List.getElem_cons_zero, List.getElem_cons_succ, List.setIfInBounds_toArray, List.set_cons_zero, List.set_cons_succ])
    refine wpAnyJ_take0 (i := 10) (v := ?_) rfl (by kernel_rfl) (by kernel_rfl) (by kernel_rfl) (fun _ _ _ h => h) (Or.inl ⟨by rfl, ?_⟩) ?_
    rotate_left
    focus ((intro w hSw; clear hSw; go_simp); try with_reducible rfl)
    (try simp only [Act.put, List.getElem_toArray, List.getElem_cons_zero, List.getElem_cons_succ, List.setIfInBounds_toArray, List.set_cons_zero, List.set_cons_succ])
    refine wpAnyJ_take (i := 11) (v := ?_) rfl (by kernel_rfl) (by kernel_rfl) (by kernel_rfl) (by kernel_rfl) (fun _ _ _ h => h) (Or.inl ⟨by rfl, ?_⟩) (by assumption) ?_
    rotate_left
    focus ((intro w hSw; (try dsimp only at hSw); go_simp); try with_reducible rfl)
    (try simp only [Act.put, List.getElem_toArray, List.getElem_cons_zero, List.getElem_cons_succ, List.setIfInBounds_toArray, List.set_cons_zero, List.set_cons_succ])
    refine wpAnyJ_take0 (i := 12) (v := ?_) rfl (by kernel_rfl) (by kernel_rfl) (by kernel_rfl) (fun _ _ _ h => h) (Or.inl ⟨by rfl, ?_⟩) ?_
    rotate_left
    focus ((intro w hSw; clear hSw; go_simp); try with_reducible rfl)
    (try simp only [Act.put, List.getElem_toArray, List.getElem_cons_zero, List.getElem_cons_succ, List.setIfInBounds_toArray, List.set_cons_zero, List.set_cons_succ])
    refine wpAnyJ_ready (rs := [13]) (by kernel_rfl) (by simp) ?_
    refine AllReadyJ.cons rfl (fun KK hKK => ?_) AllReadyJ.nil
    go_simp
    refine hKK.out _ _ (fun h => absurd h (by decide)) ?_
    clear hKK KK hHeld
    (try simp only [Act.put, List.getElem_toArray, List.getElem_cons_zero, List.getElem_cons_succ, List.setIfInBounds_toArray, List.set_cons_zero, List.set_cons_succ])
    refine wpAnyJ_done (by kernel_rfl) ?_ _
    refine NoPanic.normal ?_
    have h3 := T2.n.set1 (fun k => by have := T2.one k; omega) f x
    have T3 := (T2.upd_n h3.1 h3.2).drew
    generalize (u2.setCell ⟨gn, f, none⟩ (.string x)).drew = u3 at T3 ⊢
    obtain ⟨ea0, _, _, fe0, _, _⟩ := T3.a.cells
    have T3 := Lib.hid T3
    clear T2 h3 kz2 kx2 fz2
    go_wp2_with fail
    rw [← HQ.out]
    obtain ⟨n4, f4⟩ := T3.out.a.cut1 (m := kk) (fun k => by have := T3.out.one k; omega) (by rw [HA.out]; omega) ⟨ga, rfl⟩
    have T4 := T3.out.upd_a n4 f4
    refine ⟨rfl, _, results_none rfl _ _ _, rfl, ?_⟩
    rw [HA.out, HCA.out]
    exact ⟨_, _, _, _, _, _, _, _, _, T4⟩
end Go.Proofs.Ytjoopjmcnkiieaa

/- lend: the right neighbour lends its first key, both are leaves. Conditions: the three nodes are there, apart. -/
namespace Go.Proofs.Ytjoopjmcnkiieaa
open Go.RowKit Go.Lib
set_option linter.unusedSimpArgs false
set_option linter.unusedVariables false

set_option maxRecDepth 100000 in
set_option maxHeartbeats 32000000 in
theorem lend_ll {w : World} {pn pa pb f t kk : Nat} {n1 n2 n3 a1 a2 a3 b1 b2 b3 : Value} {Kn Ka Kb : List ByteArray} {Vn Va Vb : List Int} {Cn Ca Cb : List Nat} {x x' : ByteArray} {y : Int}
    (hn : NodeAt w pn n1 n2 n3 Kn Vn Cn) (ha : NodeAt w pa a1 a2 a3 Ka Va Ca) (hb : NodeAt w pb b1 b2 b3 Kb Vb Cb) (hone : ∀ k, ow pn n1 n2 n3 k + ow pa a1 a2 a3 k + ow pb b1 b2 b3 k ≤ 1)
    (hf : Cn[f]? = some pa) (ht : Cn[t]? = some pb) (hsz : Kn.length ≤ 1000 ∧ Cn.length ≤ 1000 ∧ Ka.length ≤ 1000 ∧ Kb.length ≤ 1000 ∧ Cb.length ≤ 1000 ∧ Vb.length ≤ 1000 ∧ Ca.length ≤ 1000 ∧ Va.length ≤ 1000) (hft : ¬ f < t) (hfn : t < Kn.length) (hA : Ka.length = kk + 1) (hVA : Va.length = kk + 1) (hCA : Ca = []) (hx : Ka[0]? = some x) (hy : Va[0]? = some y) (hx' : (Ka.eraseIdx 0)[0]? = some x') :
    Calls Try.prog 62 #[.pointer (some ⟨pn, 0, none⟩), .int .i64 f, .int .i64 t] w (Lend3 pn pa pb n1 n2 n3 a1 a2 a3 b1 b2 b3 (Kn.set t x') Vn Cn (Ka.eraseIdx 0) (Va.eraseIdx 0) Ca (Kb ++ [x]) (Vb ++ [y]) Cb w) := by
  obtain ⟨an1, cn1, an2, cn2, an3, cn3, rfl, rfl, rfl, ln1, ln2, ln3, mn1, mn2, mn3⟩ := hn.forms
  obtain ⟨aa1, ca1, aa2, ca2, aa3, ca3, rfl, rfl, rfl, la1, la2, la3, ma1, ma2, ma3⟩ := ha.forms
  obtain ⟨ab1, cb1, ab2, cb2, ab3, cb3, rfl, rfl, rfl, lb1, lb2, lb3, mb1, mb2, mb3⟩ := hb.forms
  have T0 := Tri.start hn ha hb hone
  obtain ⟨g3, rfl, kf, _⟩ := hn.kid hf
  obtain ⟨g3', e3, kt, _⟩ := hn.kid ht
  injection e3 with e3
  injection e3 with e3 _
  subst e3
  have hfl := (List.getElem?_eq_some_iff.1 hf).1
  have htl := (List.getElem?_eq_some_iff.1 ht).1
  obtain ⟨ga, rfl, kx, _⟩ := ha.key hx
  obtain ⟨ga2, rfl, ky, _⟩ := ha.num hy
  obtain ⟨z, hz⟩ : ∃ z, Kn[t]? = some z := get_some hfn
  obtain ⟨gn, rfl, kz, fz⟩ := hn.key hz
  obtain ⟨Q, hQ⟩ : ∃ Q, Lend3 pn pa pb (.slice (some ⟨gn, 0, none⟩) Kn.length cn1) (.slice an2 Vn.length cn2) (.slice (some ⟨g3, 0, none⟩) Cn.length cn3) (.slice (some ⟨ga, 0, none⟩) Ka.length ca1) (.slice (some ⟨ga2, 0, none⟩) Va.length ca2) (.slice aa3 Ca.length ca3) (.slice ab1 Kb.length cb1) (.slice ab2 Vb.length cb2) (.slice ab3 Cb.length cb3) (Kn.set t x') Vn Cn (Ka.eraseIdx 0) (Va.eraseIdx 0) Ca (Kb ++ [x]) (Vb ++ [y]) Cb w = Q := ⟨_, rfl⟩
  have HQ := Lib.hid hQ
  rw [hQ]
  rw [hA] at T0 la1 hsz
  rw [hVA] at T0 la2 hsz
  generalize ekn : Kn.length = kn at *
  have Hkn := Lib.hid ekn
  clear ekn
  generalize evn : Vn.length = vn at *
  have Hvn := Lib.hid evn
  clear evn
  generalize ecnl : Cn.length = cnl at *
  have Hcnl := Lib.hid ecnl
  clear ecnl
  generalize ecal : Ca.length = cal at *
  have Hcal := Lib.hid ecal
  clear ecal
  generalize ekb : Kb.length = kb at *
  have Hkb := Lib.hid ekb
  clear ekb
  generalize evb : Vb.length = vb at *
  have Hvb := Lib.hid evb
  clear evb
  generalize ecbl : Cb.length = cbl at *
  have Hcbl := Lib.hid ecbl
  clear ecbl
  have hfl' : (f : Int) < cnl := by omega
  have htl' : (t : Int) < cnl := by omega
  have hf0 : (0 : Int) ≤ f := by omega
  have ht0 : (0 : Int) ≤ t := by omega
  obtain ⟨dn0, dn1, dn2, fn0, fn1, fn2⟩ := T0.n.cells
  obtain ⟨da0, da1, da2, fa0, fa1, fa2⟩ := T0.a.cells
  obtain ⟨db0, db1, db2, fb0, fb1, fb2⟩ := T0.b.cells
  have TT := Lib.hid T0
  have HONE := Lib.hid T0.one
  clear hn ha hb hone hf ht hQ fn0 fn1 fn2 fa0 fa1 fa2 fb0 fb1 fb2 T0
  go_enter Try.func62, Try.ntmps62
  go_wp2_with fail
  obtain ⟨iS, siS, szS, s1S, s2S⟩ := info_parts Try.infoS
  obtain ⟨iI, siI, szI, s1I, s2I⟩ := info_parts Try.infoI
  obtain ⟨iP, siP, szP, s1P, s2P⟩ := info_parts Try.infoP
  have HA := Lib.hid hA
  have HVA := Lib.hid hVA
  have HX := Lib.hid hx'
  have HZ := Lib.hid hz
  have HSZ : Hid (Kb.length ≤ 1000 ∧ Vb.length ≤ 1000) := Lib.hid (by have := Hkb.out; have := Hvb.out; omega)
  have hlpa := TT.out.a.owns
  have z1 : ow pb (.slice ab1 kb cb1) (.slice ab2 vb cb2) (.slice ab3 cbl cb3) pa = 0 := by have h1 := HONE.out pa; have h2 := hlpa.1; omega
  have z2 : ow pb (.slice ab1 kb cb1) (.slice ab2 vb cb2) (.slice ab3 cbl cb3) ga = 0 := by have h1 := HONE.out ga; have h2 := hlpa.2.1 ga rfl; omega
  have z3 : ow pb (.slice ab1 kb cb1) (.slice ab2 vb cb2) (.slice ab3 cbl cb3) ga2 = 0 := by have h1 := HONE.out ga2; have h2 := hlpa.2.2.1 ga2 rfl; omega
  have HLF := Lib.hid (show Calls Try.prog 38 #[.pointer (some ⟨pa, 0, none⟩)] w.drew fun e w' => e = .returned (.bool true) ∧ w.drew = w' from by have := leaf_any TT.out.a.drew; rwa [hCA] at this)
  have HST := (St.start TT.out.b (fun k => by have := HONE.out k; omega)).drew.drew
  have hkk0 : (0 : Int) < (kk : Int) + 1 := by omega
  have hkp : 0 < kk := by have := (List.getElem?_eq_some_iff.1 hx').1; rw [erase_len (by omega)] at this; omega
  have hkp' : (0 : Int) < kk := by omega
  have hfn' : (t : Int) < kn := by have := Hkn.out; omega
  have ma1' : (ca1 : Int) ≤ 9223372036854775807 := by omega
  have ma2' : (ca2 : Int) ≤ 9223372036854775807 := by omega
  have hft2 : ¬ (f : Int) < t := by omega
  clear hA hVA hx hx' hz hlpa hCA hfn
  refine wp_region_noPanic ?_
  refine wp_region_J (S := fun u : World => u.cell? ⟨pn, 2, none⟩ = some (.slice (some ⟨g3, 0, none⟩) cnl cn3) ∧ u.cell? ⟨g3, f, none⟩ = some (.pointer (some ⟨pa, 0, none⟩)) ∧ u.cell? ⟨g3, t, none⟩ = some (.pointer (some ⟨pb, 0, none⟩))) (fun _ => false) (by kernel_rfl) ?_
  have hHeld : (fun u : World => u.cell? ⟨pn, 2, none⟩ = some (.slice (some ⟨g3, 0, none⟩) cnl cn3) ∧ u.cell? ⟨g3, f, none⟩ = some (.pointer (some ⟨pa, 0, none⟩)) ∧ u.cell? ⟨g3, t, none⟩ = some (.pointer (some ⟨pb, 0, none⟩))) w.drew := ⟨dn2, kf, kt⟩
  refine wpAnyJ_take0 (i := 0) (v := ?_) rfl (by kernel_rfl) (by kernel_rfl) (by kernel_rfl) (fun _ _ _ h => h) (Or.inl ⟨by rfl, ?_⟩) ?_
  rotate_left
  focus ((intro w hSw; clear hSw; go_simp); try with_reducible rfl)
  (try simp only [Act.put, List.getElem_toArray, List.getElem_cons_zero, List.getElem_cons_succ, List.setIfInBounds_toArray, List.set_cons_zero, List.set_cons_succ])
  refine wpAnyJ_take0 (i := 1) (v := ?_) rfl (by kernel_rfl) (by kernel_rfl) (by kernel_rfl) (fun _ _ _ h => h) (Or.inl ⟨by rfl, ?_⟩) ?_
  rotate_left
  focus ((intro w hSw; clear hSw; go_simp); try with_reducible rfl)
  (try simp only [Act.put, List.getElem_toArray, List.getElem_cons_zero, List.getElem_cons_succ, List.setIfInBounds_toArray, List.set_cons_zero, List.set_cons_succ])
  refine wpAnyJ_take0 (i := 2) (v := ?_) rfl (by kernel_rfl) (by kernel_rfl) (by kernel_rfl) (fun _ _ _ h => h) (Or.inl ⟨by rfl, ?_⟩) ?_
  rotate_left
  focus ((intro w hSw; clear hSw; go_simp); try with_reducible rfl)
  (try simp only [Act.put, List.getElem_toArray, List.getElem_cons_zero, List.getElem_cons_succ, List.setIfInBounds_toArray, List.set_cons_zero, List.set_cons_succ])
  refine wpAnyJ_take (i := 3) (v := ?_) rfl (by kernel_rfl) (by kernel_rfl) (by kernel_rfl) (by kernel_rfl) (fun _ _ _ h => h) (Or.inl ⟨by rfl, ?_⟩) (by assumption) ?_
  rotate_left
  focus ((intro w hSw; (try dsimp only at hSw); go_simp); try with_reducible rfl)
  (try simp only [Act.put, List.getElem_toArray, List.getElem_cons_zero, List.getElem_cons_succ, List.setIfInBounds_toArray, List.set_cons_zero, List.set_cons_succ])
  refine wpAnyJ_take0 (i := 4) (v := ?_) rfl (by kernel_rfl) (by kernel_rfl) (by kernel_rfl) (fun _ _ _ h => h) (Or.inl ⟨by rfl, ?_⟩) ?_
  rotate_left
  focus ((intro w hSw; clear hSw; go_simp); try with_reducible rfl)
  (try simp only [Act.put, List.getElem_toArray, List.getElem_cons_zero, List.getElem_cons_succ, List.setIfInBounds_toArray, List.set_cons_zero, List.set_cons_succ])
  refine wpAnyJ_take0 (i := 5) (v := ?_) rfl (by kernel_rfl) (by kernel_rfl) (by kernel_rfl) (fun _ _ _ h => h) (Or.inl ⟨by rfl, ?_⟩) ?_
  rotate_left
  focus ((intro w hSw; clear hSw; go_simp); try with_reducible rfl)
  (try simp only [Act.put, List.getElem_toArray, List.getElem_cons_zero, List.getElem_cons_succ, List.setIfInBounds_toArray, List.set_cons_zero, List.set_cons_succ])
  refine wpAnyJ_take (i := 6) (v := ?_) rfl (by kernel_rfl) (by kernel_rfl) (by kernel_rfl) (by kernel_rfl) (fun _ _ _ h => h) (Or.inl ⟨by rfl, ?_⟩) (by assumption) ?_
  rotate_left
  focus ((intro w hSw; (try dsimp only at hSw); go_simp); try with_reducible rfl)
  (try simp only [Act.put, List.getElem_toArray, List.getElem_cons_zero, List.getElem_cons_succ, List.setIfInBounds_toArray, List.set_cons_zero, List.set_cons_succ])
  refine wpAnyJ_take0 (i := 7) (v := ?_) rfl (by kernel_rfl) (by kernel_rfl) (by kernel_rfl) (fun _ _ _ h => h) (Or.inl ⟨by rfl, ?_⟩) ?_
  rotate_left
  focus ((intro w hSw; clear hSw; go_simp); try with_reducible rfl)
  (try simp only [Act.put, List.getElem_toArray, List.getElem_cons_zero, List.getElem_cons_succ, List.setIfInBounds_toArray, List.set_cons_zero, List.set_cons_succ])
  refine wpAnyJ_take0 (i := 8) (v := ?_) rfl (by kernel_rfl) (by kernel_rfl) (by kernel_rfl) (fun _ _ _ h => h) (Or.inl ⟨by rfl, ?_⟩) ?_
  rotate_left
  focus ((intro w hSw; clear hSw; go_simp); try with_reducible rfl)
  (try simp only [Act.put, List.getElem_toArray, List.getElem_cons_zero, List.getElem_cons_succ, List.setIfInBounds_toArray, List.set_cons_zero, List.set_cons_succ])
  refine wpAnyJ_take0 (i := 9) (v := ?_) rfl (by kernel_rfl) (by kernel_rfl) (by kernel_rfl) (fun _ _ _ h => h) (Or.inl ⟨by rfl, ?_⟩) ?_
  rotate_left
  focus ((intro w hSw; clear hSw; go_simp); try with_reducible rfl)
  (try simp only [Act.put, List.getElem_toArray, List.getElem_cons_zero, List.getElem_cons_succ, List.setIfInBounds_toArray, List.set_cons_zero, List.set_cons_succ])
  refine wpAnyJ_take (i := 10) (v := ?_) rfl (by kernel_rfl) (by kernel_rfl) (by kernel_rfl) (by kernel_rfl) (fun _ _ _ h => h) (Or.inl ⟨by rfl, ?_⟩) (by assumption) ?_
  rotate_left
  focus ((intro w hSw; (try dsimp only at hSw); go_simp); try with_reducible rfl)
  (try simp only [Act.put, List.getElem_toArray, List.getElem_cons_zero, List.getElem_cons_succ, List.setIfInBounds_toArray, List.set_cons_zero, List.set_cons_succ])
  refine wpAnyJ_take0 (i := 11) (v := ?_) rfl (by kernel_rfl) (by kernel_rfl) (by kernel_rfl) (fun _ _ _ h => h) (Or.inl ⟨by rfl, ?_⟩) ?_
  rotate_left
  focus ((intro w hSw; clear hSw; go_simp); try with_reducible rfl)
  (try simp only [Act.put, List.getElem_toArray, List.getElem_cons_zero, List.getElem_cons_succ, List.setIfInBounds_toArray, List.set_cons_zero, List.set_cons_succ])
  refine wpAnyJ_take0 (i := 12) (v := ?_) rfl (by kernel_rfl) (by kernel_rfl) (by kernel_rfl) (fun _ _ _ h => h) (Or.inl ⟨by rfl, ?_⟩) ?_
  rotate_left
  focus ((intro w hSw; clear hSw; go_simp); try with_reducible rfl)
  (try simp only [Act.put, List.getElem_toArray, List.getElem_cons_zero, List.getElem_cons_succ, List.setIfInBounds_toArray, List.set_cons_zero, List.set_cons_succ])
  refine wpAnyJ_take (i := 13) (v := ?_) rfl (by kernel_rfl) (by kernel_rfl) (by kernel_rfl) (by kernel_rfl) (fun _ _ _ h => h) (Or.inl ⟨by rfl, ?_⟩) (by assumption) ?_
  rotate_left
  focus ((intro w hSw; (try dsimp only at hSw); go_simp); try with_reducible rfl)
  (try simp only [Act.put, List.getElem_toArray, List.getElem_cons_zero, List.getElem_cons_succ, List.setIfInBounds_toArray, List.set_cons_zero, List.set_cons_succ])
  refine wpAnyJ_take0 (i := 14) (v := ?_) rfl (by kernel_rfl) (by kernel_rfl) (by kernel_rfl) (fun _ _ _ h => h) (Or.inl ⟨by rfl, ?_⟩) ?_
  rotate_left
  focus ((intro w hSw; clear hSw; go_simp); try with_reducible rfl)
  (try simp only [Act.put, List.getElem_toArray, List.getElem_cons_zero, List.getElem_cons_succ, List.setIfInBounds_toArray, List.set_cons_zero, List.set_cons_succ])
  refine wpAnyJ_take0 (i := 15) (v := ?_) rfl (by kernel_rfl) (by kernel_rfl) (by kernel_rfl) (fun _ _ _ h => h) (Or.inl ⟨by rfl, ?_⟩) ?_
  rotate_left
  focus ((intro w hSw; clear hSw; go_simp); try with_reducible rfl)
  (try simp only [Act.put, List.getElem_toArray, List.getElem_cons_zero, List.getElem_cons_succ, List.setIfInBounds_toArray, List.set_cons_zero, List.set_cons_succ])
  refine wpAnyJ_done (by kernel_rfl) ?_ _
  refine NoPanic.normal ?_
  go_wp2_with fail
  refine HLF.out.mono ?_
  rintro e w' ⟨rfl, rfl⟩
  clear HLF dn0 dn1 dn2 db0 db1 db2 kf kt
  go_wp2_with fail
  refine wp_region_noPanic ?_
  refine wp_region_J (S := fun u : World => u.cell? ⟨pb, 0, none⟩ = some (.slice ab1 kb cb1) ∧ u.cell? ⟨pb, 1, none⟩ = some (.slice ab2 vb cb2) ∧ u.cell? ⟨pa, 0, none⟩ = some (.slice (some ⟨ga, 0, none⟩) (kk + 1) ca1) ∧ u.cell? ⟨pa, 1, none⟩ = some (.slice (some ⟨ga2, 0, none⟩) (kk + 1) ca2) ∧ u.cell? ⟨ga, 0, none⟩ = some (.string x) ∧ u.cell? ⟨ga2, 0, none⟩ = some (.int .i64 y)) (fun j => j == 28 || j == 31) (by kernel_rfl) ?_
  obtain ⟨u0, hu0⟩ : ∃ u, w.drew.drew = u := ⟨_, rfl⟩
  rw [hu0] at HST ⊢
  clear hu0
  have hHeld : (fun u : World => u.cell? ⟨pb, 0, none⟩ = some (.slice ab1 kb cb1) ∧ u.cell? ⟨pb, 1, none⟩ = some (.slice ab2 vb cb2) ∧ u.cell? ⟨pa, 0, none⟩ = some (.slice (some ⟨ga, 0, none⟩) (kk + 1) ca1) ∧ u.cell? ⟨pa, 1, none⟩ = some (.slice (some ⟨ga2, 0, none⟩) (kk + 1) ca2) ∧ u.cell? ⟨ga, 0, none⟩ = some (.string x) ∧ u.cell? ⟨ga2, 0, none⟩ = some (.int .i64 y)) u0 := ⟨HST.cell.1, HST.cell.2.1, HST.other da0 z1, HST.other da1 z1, HST.other kx z2, HST.other ky z3⟩
  refine wpAnyJ_take0 (i := 0) (v := ?_) rfl (by kernel_rfl) (by kernel_rfl) (by kernel_rfl) (fun _ _ _ h => h) (Or.inl ⟨by rfl, ?_⟩) ?_
  rotate_left
  focus ((intro w hSw; clear hSw; go_simp); try with_reducible rfl)
  (try simp only [Act.put, List.getElem_toArray, List.getElem_cons_zero, List.getElem_cons_succ, List.setIfInBounds_toArray, List.set_cons_zero, List.set_cons_succ])
  refine wpAnyJ_take0 (i := 1) (v := ?_) rfl (by kernel_rfl) (by kernel_rfl) (by kernel_rfl) (fun _ _ _ h => h) (Or.inl ⟨by rfl, ?_⟩) ?_
  rotate_left
  focus ((intro w hSw; clear hSw; go_simp); try with_reducible rfl)
  (try simp only [Act.put, List.getElem_toArray, List.getElem_cons_zero, List.getElem_cons_succ, List.setIfInBounds_toArray, List.set_cons_zero, List.set_cons_succ])
  refine wpAnyJ_take0 (i := 2) (v := ?_) rfl (by kernel_rfl) (by kernel_rfl) (by kernel_rfl) (fun _ _ _ h => h) (Or.inl ⟨by rfl, ?_⟩) ?_
  rotate_left
  focus ((intro w hSw; clear hSw; go_simp); try with_reducible rfl)
  (try simp only [Act.put, List.getElem_toArray, List.getElem_cons_zero, List.getElem_cons_succ, List.setIfInBounds_toArray, List.set_cons_zero, List.set_cons_succ])
  refine wpAnyJ_take0 (i := 3) (v := ?_) rfl (by kernel_rfl) (by kernel_rfl) (by kernel_rfl) (fun _ _ _ h => h) (Or.inl ⟨by rfl, ?_⟩) ?_
  rotate_left
  focus ((intro w hSw; clear hSw; go_simp); try with_reducible rfl)
  (try simp only [Act.put, List.getElem_toArray, List.getElem_cons_zero, List.getElem_cons_succ, List.setIfInBounds_toArray, List.set_cons_zero, List.set_cons_succ])
  refine wpAnyJ_take0 (i := 4) (v := ?_) rfl (by kernel_rfl) (by kernel_rfl) (by kernel_rfl) (fun _ _ _ h => h) (Or.inl ⟨by rfl, ?_⟩) ?_
  rotate_left
  focus ((intro w hSw; clear hSw; go_simp); try with_reducible rfl)
  (try simp only [Act.put, List.getElem_toArray, List.getElem_cons_zero, List.getElem_cons_succ, List.setIfInBounds_toArray, List.set_cons_zero, List.set_cons_succ])
  refine wpAnyJ_take (i := 5) (v := ?_) rfl (by kernel_rfl) (by kernel_rfl) (by kernel_rfl) (by kernel_rfl) (fun _ _ _ h => h) (Or.inl ⟨by rfl, ?_⟩) (by assumption) ?_
  rotate_left
  focus ((intro w hSw; (try dsimp only at hSw); go_simp); try with_reducible rfl)
  (try simp only [Act.put, List.getElem_toArray, List.getElem_cons_zero, List.getElem_cons_succ, List.setIfInBounds_toArray, List.set_cons_zero, List.set_cons_succ])
  refine wpAnyJ_take0 (i := 6) (v := ?_) rfl (by kernel_rfl) (by kernel_rfl) (by kernel_rfl) (fun _ _ _ h => h) (Or.inl ⟨by rfl, ?_⟩) ?_
  rotate_left
  focus ((intro w hSw; clear hSw; go_simp); try with_reducible rfl)
  (try simp only [Act.put, List.getElem_toArray, List.getElem_cons_zero, List.getElem_cons_succ, List.setIfInBounds_toArray, List.set_cons_zero, List.set_cons_succ])
  refine wpAnyJ_take0 (i := 7) (v := ?_) rfl (by kernel_rfl) (by kernel_rfl) (by kernel_rfl) (fun _ _ _ h => h) (Or.inl ⟨by rfl, ?_⟩) ?_
  rotate_left
  focus ((intro w hSw; clear hSw; go_simp); try with_reducible rfl)
  (try simp only [Act.put, List.getElem_toArray, List.getElem_cons_zero, List.getElem_cons_succ, List.setIfInBounds_toArray, List.set_cons_zero, List.set_cons_succ])
  refine wpAnyJ_take0 (i := 8) (v := ?_) rfl (by kernel_rfl) (by kernel_rfl) (by kernel_rfl) (fun _ _ _ h => h) (Or.inl ⟨by rfl, ?_⟩) ?_
  rotate_left
  focus ((intro w hSw; clear hSw; go_simp); try with_reducible rfl)
  (try simp only [Act.put, List.getElem_toArray, List.getElem_cons_zero, List.getElem_cons_succ, List.setIfInBounds_toArray, List.set_cons_zero, List.set_cons_succ])
  refine wpAnyJ_take (i := 9) (v := ?_) rfl (by kernel_rfl) (by kernel_rfl) (by kernel_rfl) (by kernel_rfl) (fun _ _ _ h => h) (Or.inl ⟨by rfl, ?_⟩) (by assumption) ?_
  rotate_left
  focus ((intro w hSw; (try dsimp only at hSw); go_simp); try with_reducible rfl)
  (try simp only [Act.put, List.getElem_toArray, List.getElem_cons_zero, List.getElem_cons_succ, List.setIfInBounds_toArray, List.set_cons_zero, List.set_cons_succ])
  refine wpAnyJ_take0 (i := 10) (v := ?_) rfl (by kernel_rfl) (by kernel_rfl) (by kernel_rfl) (fun _ _ _ h => h) (Or.inl ⟨by rfl, ?_⟩) ?_
  rotate_left
  focus ((intro w hSw; clear hSw; go_simp); try with_reducible rfl)
  (try simp only [Act.put, List.getElem_toArray, List.getElem_cons_zero, List.getElem_cons_succ, List.setIfInBounds_toArray, List.set_cons_zero, List.set_cons_succ])
  refine wpAnyJ_take (i := 11) (v := ?_) rfl (by kernel_rfl) (by kernel_rfl) (by kernel_rfl) (by kernel_rfl) (fun _ _ _ h => h) (Or.inl ⟨by rfl, ?_⟩) (by assumption) ?_
  rotate_left
  focus ((intro w hSw; (try dsimp only at hSw); go_simp); try with_reducible rfl)
  (try simp only [Act.put, List.getElem_toArray, List.getElem_cons_zero, List.getElem_cons_succ, List.setIfInBounds_toArray, List.set_cons_zero, List.set_cons_succ])
  refine wpAnyJ_take0 (i := 14) (v := ?_) rfl (by kernel_rfl) (by kernel_rfl) (by kernel_rfl) (fun _ _ _ h => h) (Or.inl ⟨by rfl, ?_⟩) ?_
  rotate_left
  focus ((intro w hSw; clear hSw; go_simp); try with_reducible rfl)
  (try simp only [Act.put, List.getElem_toArray, List.getElem_cons_zero, List.getElem_cons_succ, List.setIfInBounds_toArray, List.set_cons_zero, List.set_cons_succ])
  refine wpAnyJ_take0 (i := 15) (v := ?_) rfl (by kernel_rfl) (by kernel_rfl) (by kernel_rfl) (fun _ _ _ h => h) (Or.inl ⟨by rfl, ?_⟩) ?_
  rotate_left
  focus ((intro w hSw; clear hSw; go_simp); try with_reducible rfl)
  (try simp only [Act.put, List.getElem_toArray, List.getElem_cons_zero, List.getElem_cons_succ, List.setIfInBounds_toArray, List.set_cons_zero, List.set_cons_succ])
  refine wpAnyJ_take0 (i := 16) (v := ?_) rfl (by kernel_rfl) (by kernel_rfl) (by kernel_rfl) (fun _ _ _ h => h) (Or.inl ⟨by rfl, ?_⟩) ?_
  rotate_left
  focus ((intro w hSw; clear hSw; go_simp); try with_reducible rfl)
  (try simp only [Act.put, List.getElem_toArray, List.getElem_cons_zero, List.getElem_cons_succ, List.setIfInBounds_toArray, List.set_cons_zero, List.set_cons_succ])
  refine wpAnyJ_take (i := 17) (v := ?_) rfl (by kernel_rfl) (by kernel_rfl) (by kernel_rfl) (by kernel_rfl) (fun _ _ _ h => h) (Or.inl ⟨by rfl, ?_⟩) (by assumption) ?_
  rotate_left
  focus ((intro w hSw; (try dsimp only at hSw); go_simp); try with_reducible rfl)
  (try simp only [Act.put, List.getElem_toArray, List.getElem_cons_zero, List.getElem_cons_succ, List.setIfInBounds_toArray, List.set_cons_zero, List.set_cons_succ])
  refine wpAnyJ_take0 (i := 18) (v := ?_) rfl (by kernel_rfl) (by kernel_rfl) (by kernel_rfl) (fun _ _ _ h => h) (Or.inl ⟨by rfl, ?_⟩) ?_
  rotate_left
  focus ((intro w hSw; clear hSw; go_simp); try with_reducible rfl)
  (try simp only [Act.put, List.getElem_toArray, List.getElem_cons_zero, List.getElem_cons_succ, List.setIfInBounds_toArray, List.set_cons_zero, List.set_cons_succ])
  refine wpAnyJ_take0 (i := 19) (v := ?_) rfl (by kernel_rfl) (by kernel_rfl) (by kernel_rfl) (fun _ _ _ h => h) (Or.inl ⟨by rfl, ?_⟩) ?_
  rotate_left
  focus ((intro w hSw; clear hSw; go_simp); try with_reducible rfl)
  (try simp only [Act.put, List.getElem_toArray, List.getElem_cons_zero, List.getElem_cons_succ, List.setIfInBounds_toArray, List.set_cons_zero, List.set_cons_succ])
  refine wpAnyJ_take0 (i := 20) (v := ?_) rfl (by kernel_rfl) (by kernel_rfl) (by kernel_rfl) (fun _ _ _ h => h) (Or.inl ⟨by rfl, ?_⟩) ?_
  rotate_left
  focus ((intro w hSw; clear hSw; go_simp); try with_reducible rfl)
  (try simp only [Act.put, List.getElem_toArray, List.getElem_cons_zero, List.getElem_cons_succ, List.setIfInBounds_toArray, List.set_cons_zero, List.set_cons_succ])
  refine wpAnyJ_take (i := 21) (v := ?_) rfl (by kernel_rfl) (by kernel_rfl) (by kernel_rfl) (by kernel_rfl) (fun _ _ _ h => h) (Or.inl ⟨by rfl, ?_⟩) (by assumption) ?_
  rotate_left
  focus ((intro w hSw; (try dsimp only at hSw); go_simp); try with_reducible rfl)
  (try simp only [Act.put, List.getElem_toArray, List.getElem_cons_zero, List.getElem_cons_succ, List.setIfInBounds_toArray, List.set_cons_zero, List.set_cons_succ])
  refine wpAnyJ_take0 (i := 22) (v := ?_) rfl (by kernel_rfl) (by kernel_rfl) (by kernel_rfl) (fun _ _ _ h => h) (Or.inl ⟨by rfl, ?_⟩) ?_
  rotate_left
  focus ((intro w hSw; clear hSw; go_simp); try with_reducible rfl)
  (try simp only [Act.put, List.getElem_toArray, List.getElem_cons_zero, List.getElem_cons_succ, List.setIfInBounds_toArray, List.set_cons_zero, List.set_cons_succ])
  refine wpAnyJ_take (i := 23) (v := ?_) rfl (by kernel_rfl) (by kernel_rfl) (by kernel_rfl) (by kernel_rfl) (fun _ _ _ h => h) (Or.inl ⟨by rfl, ?_⟩) (by assumption) ?_
  rotate_left
  focus ((intro w hSw; (try dsimp only at hSw); go_simp); try with_reducible rfl)
  (try simp only [Act.put, List.getElem_toArray, List.getElem_cons_zero, List.getElem_cons_succ, List.setIfInBounds_toArray, List.set_cons_zero, List.set_cons_succ])
  refine wpAnyJ_ready (rs := [12, 24]) (by kernel_rfl) (by simp) ?_
  refine AllReadyJ.cons rfl (fun KK hKK => ?_) (AllReadyJ.cons rfl (fun KK hKK => ?_) AllReadyJ.nil)
  · go_simp
    replace HST := HST.alloc (.string x) 9
    have hH2 : (fun u : World => u.cell? ⟨pb, 0, none⟩ = some (.slice ab1 kb cb1) ∧ u.cell? ⟨pb, 1, none⟩ = some (.slice ab2 vb cb2) ∧ u.cell? ⟨pa, 0, none⟩ = some (.slice (some ⟨ga, 0, none⟩) (kk + 1) ca1) ∧ u.cell? ⟨pa, 1, none⟩ = some (.slice (some ⟨ga2, 0, none⟩) (kk + 1) ca2) ∧ u.cell? ⟨ga, 0, none⟩ = some (.string x) ∧ u.cell? ⟨ga2, 0, none⟩ = some (.int .i64 y)) (u0.alloc (.cells #[.string x] 9)) := ⟨HST.cell.1, HST.cell.2.1, HST.other da0 z1, HST.other da1 z1, HST.other kx z2, HST.other ky z3⟩
    refine hKK.out _ _ (fun _ _ => hH2) ?_
    clear hKK KK
    generalize u0.heap.size = vb1 at HST ⊢
    generalize u0.alloc (.cells #[.string x] 9) = u1 at HST hH2 ⊢
    clear hHeld
    have hHeld := hH2
    clear hH2
    clear u0
    revert u1
    intro u0 HST hHeld
    (try simp only [Act.put, List.getElem_toArray, List.getElem_cons_zero, List.getElem_cons_succ, List.setIfInBounds_toArray, List.set_cons_zero, List.set_cons_succ])
    refine wpAnyJ_ready (rs := [13, 24]) (by kernel_rfl) (by simp) ?_
    refine AllReadyJ.cons rfl (fun KK hKK => ?_) (AllReadyJ.cons rfl (fun KK hKK => ?_) AllReadyJ.nil)
    · refine step_append_arr (by rfl) _ _ 27 (by rfl) Try.underlying27 siS szS s1S s2S rfl (by decide) _ _ _ ((Kb).map Value.string) (by rfl) HST.r1 (str_one _) (some ⟨vb1, 0, none⟩) (1) 1 _ (([x]).map Value.string) (by rfl) (by simp) (str_one _) (fun h => by cases h) (HST.one (t := 9) (by simp)) (by have := HSZ.out.1; simp; omega) ?_
      intro x1 c1 u1 h1 h2 h3
      have HST2 := HST.row1 h2 h3 (by rw [← List.map_append] at h1; exact h1)
      clear h1 h2 h3 HST
      have HST := HST2
      clear HST2
      have hH2 : (fun u : World => u.cell? ⟨pb, 0, none⟩ = some (.slice ab1 kb cb1) ∧ u.cell? ⟨pb, 1, none⟩ = some (.slice ab2 vb cb2) ∧ u.cell? ⟨pa, 0, none⟩ = some (.slice (some ⟨ga, 0, none⟩) (kk + 1) ca1) ∧ u.cell? ⟨pa, 1, none⟩ = some (.slice (some ⟨ga2, 0, none⟩) (kk + 1) ca2) ∧ u.cell? ⟨ga, 0, none⟩ = some (.string x) ∧ u.cell? ⟨ga2, 0, none⟩ = some (.int .i64 y)) u1 := ⟨HST.cell.1, HST.cell.2.1, HST.other da0 z1, HST.other da1 z1, HST.other kx z2, HST.other ky z3⟩
      refine hKK.out _ _ (fun _ _ => hH2) ?_
      clear hKK KK
      clear hHeld
      have hHeld := hH2
      clear hH2 u0
      revert u1
      intro u0 HST hHeld
      (try simp only [Act.put, List.getElem_toArray, List.getElem_cons_zero, List.getElem_cons_succ, List.setIfInBounds_toArray, List.set_cons_zero, List.set_cons_succ])
      refine wpAnyJ_ready (rs := [24]) (by kernel_rfl) (by simp) ?_
      refine AllReadyJ.cons rfl (fun KK hKK => ?_) AllReadyJ.nil
      go_simp
      replace HST := HST.alloc (.int .i64 y) 2
      have hH2 : (fun u : World => u.cell? ⟨pb, 0, none⟩ = some (.slice ab1 kb cb1) ∧ u.cell? ⟨pb, 1, none⟩ = some (.slice ab2 vb cb2) ∧ u.cell? ⟨pa, 0, none⟩ = some (.slice (some ⟨ga, 0, none⟩) (kk + 1) ca1) ∧ u.cell? ⟨pa, 1, none⟩ = some (.slice (some ⟨ga2, 0, none⟩) (kk + 1) ca2) ∧ u.cell? ⟨ga, 0, none⟩ = some (.string x) ∧ u.cell? ⟨ga2, 0, none⟩ = some (.int .i64 y)) (u0.alloc (.cells #[.int .i64 y] 2)) := ⟨HST.cell.1, HST.cell.2.1, HST.other da0 z1, HST.other da1 z1, HST.other kx z2, HST.other ky z3⟩
      refine hKK.out _ _ (fun _ _ => hH2) ?_
      clear hKK KK
      generalize u0.heap.size = vb2 at HST ⊢
      generalize u0.alloc (.cells #[.int .i64 y] 2) = u1 at HST hH2 ⊢
      clear hHeld
      have hHeld := hH2
      clear hH2
      clear u0
      revert u1
      intro u0 HST hHeld
      (try simp only [Act.put, List.getElem_toArray, List.getElem_cons_zero, List.getElem_cons_succ, List.setIfInBounds_toArray, List.set_cons_zero, List.set_cons_succ])
      refine wpAnyJ_ready (rs := [25]) (by kernel_rfl) (by simp) ?_
      refine AllReadyJ.cons rfl (fun KK hKK => ?_) AllReadyJ.nil
      refine step_append_arr (by rfl) _ _ 28 (by rfl) Try.underlying28 siI szI s1I s2I rfl (by decide) _ _ _ ((Vb).map numV) (by rfl) HST.r2 (num_one _) (some ⟨vb2, 0, none⟩) (1) 1 _ (([y]).map numV) (by rfl) (by simp) (num_one _) (fun h => by cases h) (HST.one (t := 2) (by simp [numV])) (by have := HSZ.out.2; simp; omega) ?_
      intro x2 c2 u1 h1 h2 h3
      have HST2 := HST.row2 h2 h3 (by rw [← List.map_append] at h1; exact h1)
      clear h1 h2 h3 HST
      have HST := HST2
      clear HST2
      have hH2 : (fun u : World => u.cell? ⟨pb, 0, none⟩ = some (.slice ab1 kb cb1) ∧ u.cell? ⟨pb, 1, none⟩ = some (.slice ab2 vb cb2) ∧ u.cell? ⟨pa, 0, none⟩ = some (.slice (some ⟨ga, 0, none⟩) (kk + 1) ca1) ∧ u.cell? ⟨pa, 1, none⟩ = some (.slice (some ⟨ga2, 0, none⟩) (kk + 1) ca2) ∧ u.cell? ⟨ga, 0, none⟩ = some (.string x) ∧ u.cell? ⟨ga2, 0, none⟩ = some (.int .i64 y)) u1 := ⟨HST.cell.1, HST.cell.2.1, HST.other da0 z1, HST.other da1 z1, HST.other kx z2, HST.other ky z3⟩
      refine hKK.out _ _ (fun _ _ => hH2) ?_
      clear hKK KK
      clear hHeld
      have hHeld := hH2
      clear hH2 u0
      revert u1
      intro u0 HST hHeld
      (try simp only [Act.put, List.getElem_toArray, List.getElem_cons_zero, List.getElem_cons_succ, List.setIfInBounds_toArray, List.set_cons_zero, List.set_cons_succ])
      refine wpAnyJ_take0 (i := 26) (v := ?_) rfl (by kernel_rfl) (by kernel_rfl) (by kernel_rfl) (fun _ _ _ h => h) (Or.inl ⟨by rfl, ?_⟩) ?_
      rotate_left
      focus ((intro w hSw; clear hSw; go_simp); try with_reducible rfl)
      (try simp only [Act.put, List.getElem_toArray, List.getElem_cons_zero, List.getElem_cons_succ, List.setIfInBounds_toArray, List.set_cons_zero, List.set_cons_succ])
      refine wpAnyJ_take0 (i := 27) (v := ?_) rfl (by kernel_rfl) (by kernel_rfl) (by kernel_rfl) (fun _ _ _ h => h) (Or.inl ⟨by rfl, ?_⟩) ?_
      rotate_left
      focus ((intro w hSw; clear hSw; go_simp); try with_reducible rfl)
      (try simp only [Act.put, List.getElem_toArray, List.getElem_cons_zero, List.getElem_cons_succ, List.setIfInBounds_toArray, List.set_cons_zero, List.set_cons_succ])
      refine wpAnyJ_ready (rs := [28]) (by kernel_rfl) (by simp) ?_
      refine AllReadyJ.cons rfl (fun KK hKK => ?_) AllReadyJ.nil
      have hz1 := HST.cell.2.2.2 0
      have hz2 := HST.cell.1
      go_simp
      clear hz1 hz2
      replace HST := HST.put0 (.slice x1 (kb + 1) c1)
      refine hKK.out _ _ (fun h => absurd h (by decide)) ?_
      clear hKK KK
      generalize u0.setCell ⟨pb, 0, none⟩ (.slice x1 (kb + 1) c1) = u1 at HST ⊢
      (try clear hHeld)
      clear u0
      revert u1
      intro u0 HST
      (try simp only [Act.put, List.getElem_toArray, List.getElem_cons_zero, List.getElem_cons_succ, List.setIfInBounds_toArray, List.set_cons_zero, List.set_cons_succ])
      refine wpAnyJ_take0 (i := 29) (v := ?_) rfl (by kernel_rfl) (by kernel_rfl) (by kernel_rfl) (fun _ _ _ h => h) (Or.inl ⟨by rfl, ?_⟩) ?_
      rotate_left
      focus ((intro w hSw; clear hSw; go_simp); try with_reducible rfl)
      (try simp only [Act.put, List.getElem_toArray, List.getElem_cons_zero, List.getElem_cons_succ, List.setIfInBounds_toArray, List.set_cons_zero, List.set_cons_succ])
      refine wpAnyJ_take0 (i := 30) (v := ?_) rfl (by kernel_rfl) (by kernel_rfl) (by kernel_rfl) (fun _ _ _ h => h) (Or.inl ⟨by rfl, ?_⟩) ?_
      rotate_left
      focus ((intro w hSw; clear hSw; go_simp); try with_reducible rfl)
      (try simp only [Act.put, List.getElem_toArray, List.getElem_cons_zero, List.getElem_cons_succ, List.setIfInBounds_toArray, List.set_cons_zero, List.set_cons_succ])
      refine wpAnyJ_ready (rs := [31]) (by kernel_rfl) (by simp) ?_
      refine AllReadyJ.cons rfl (fun KK hKK => ?_) AllReadyJ.nil
      have hz1 := HST.cell.2.2.2 1
      have hz2 := HST.cell.2.1
      go_simp
      clear hz1 hz2
      replace HST := HST.put1 (.slice x2 (vb + 1) c2)
      refine hKK.out _ _ (fun h => absurd h (by decide)) ?_
      clear hKK KK
      generalize u0.setCell ⟨pb, 1, none⟩ (.slice x2 (vb + 1) c2) = u1 at HST ⊢
      (try clear hHeld)
      clear u0
      revert u1
      intro u0 HST
      (try simp only [Act.put, List.getElem_toArray, List.getElem_cons_zero, List.getElem_cons_succ, List.setIfInBounds_toArray, List.set_cons_zero, List.set_cons_succ])
      refine wpAnyJ_done (by kernel_rfl) ?_ _
      refine NoPanic.normal ?_
      have T1 := TT.out.upd_b HST.end HST.fr
      obtain ⟨_, ea1, _, _, _, _⟩ := T1.a.cells
      have HA1 := Lib.hid (St.start T1.a (fun k => by have := T1.one k; omega))
      have T1 := Lib.hid T1
      clear HST
      go_wp2_with fail
      refine (HA1.out.del2 (i := 0) (by rw [HVA.out]; omega) (by rw [HVA.out]; omega) 1 rfl 0 rfl).mono ?_
      rintro e u1 ⟨rfl, h2⟩
      have k1 := h2.cell.2.2.2 1
      have k2 := h2.cell.2.1
      have HA2 := Lib.hid (h2.put1 (.slice (some ⟨ga2, 0, none⟩) (kk + 1 - 1) ca2))
      have k0 := h2.cell.1
      clear h2 HA1 ea1
      have hsub : kk + 1 - 1 = kk := by omega
      rw [hsub] at HA2
      clear hsub
      go_wp2_with fail
      refine (HA2.out.del1 (i := 0) (by rw [HA.out]; omega) (by rw [HA.out]; omega) 1 rfl 0 rfl).mono ?_
      rintro e u3 ⟨rfl, h2⟩
      clear k0 k1 k2
      have k1 := h2.cell.2.2.2 0
      have k2 := h2.cell.1
      have HA3 := h2.put0 (.slice (some ⟨ga, 0, none⟩) (kk + 1 - 1) ca1)
      have hsub : kk + 1 - 1 = kk := by omega
      rw [hsub] at HA3
      clear hsub h2 HA2
      have T2 := T1.out.upd_a HA3.end HA3.fr
      clear HA3
      have T2 := Lib.hid T2
      go_wp2_with fail
      have T2 := T2.out
      generalize u3.setCell ⟨pa, 0, none⟩ (.slice (some ⟨ga, 0, none⟩) kk ca1) = u2 at T2 ⊢
      clear k1 k2 T1
      obtain ⟨_, e9, kx2, _⟩ := T2.drew.a.key HX.out
      injection e9 with e9
      injection e9 with e9 _
      subst e9
      obtain ⟨_, e9, kz2, fz2⟩ := T2.drew.n.key HZ.out
      injection e9 with e9
      injection e9 with e9 _
      subst e9
      refine wp_region_noPanic ?_
      refine wp_region_J (S := fun u : World => u.cell? ⟨pn, 0, none⟩ = some (.slice (some ⟨gn, 0, none⟩) kn cn1) ∧ u.cell? ⟨pa, 0, none⟩ = some (.slice (some ⟨ga, 0, none⟩) kk ca1) ∧ u.cell? ⟨ga, 0, none⟩ = some (.string x')) (fun j => j == 12) (by kernel_rfl) ?_
      have hHeld : (fun u : World => u.cell? ⟨pn, 0, none⟩ = some (.slice (some ⟨gn, 0, none⟩) kn cn1) ∧ u.cell? ⟨pa, 0, none⟩ = some (.slice (some ⟨ga, 0, none⟩) kk ca1) ∧ u.cell? ⟨ga, 0, none⟩ = some (.string x')) u2.drew := ⟨T2.drew.n.cells.1, T2.drew.a.cells.1, kx2⟩
      refine wpAnyJ_take0 (i := 0) (v := ?_) rfl (by kernel_rfl) (by kernel_rfl) (by kernel_rfl) (fun _ _ _ h => h) (Or.inl ⟨by rfl, ?_⟩) ?_
      rotate_left
      focus ((intro w hSw; clear hSw; go_simp); try with_reducible rfl)
      (try simp only [Act.put, List.getElem_toArray, List.getElem_cons_zero, List.getElem_cons_succ, List.setIfInBounds_toArray, List.set_cons_zero, List.set_cons_succ])
      refine wpAnyJ_take0 (i := 1) (v := ?_) rfl (by kernel_rfl) (by kernel_rfl) (by kernel_rfl) (fun _ _ _ h => h) (Or.inl ⟨by rfl, ?_⟩) ?_
      rotate_left
      focus ((intro w hSw; clear hSw; go_simp); try with_reducible rfl)
      (try simp only [Act.put, List.getElem_toArray, List.getElem_cons_zero, List.getElem_cons_succ, List.setIfInBounds_toArray, List.set_cons_zero, List.set_cons_succ])
      refine wpAnyJ_take0 (i := 2) (v := ?_) rfl (by kernel_rfl) (by kernel_rfl) (by kernel_rfl) (fun _ _ _ h => h) (Or.inl ⟨by rfl, ?_⟩) ?_
      rotate_left
      focus ((intro w hSw; clear hSw; go_simp); try with_reducible rfl)
      (try simp only [Act.put, List.getElem_toArray, List.getElem_cons_zero, List.getElem_cons_succ, List.setIfInBounds_toArray, List.set_cons_zero, List.set_cons_succ])
      refine wpAnyJ_take (i := 3) (v := ?_) rfl (by kernel_rfl) (by kernel_rfl) (by kernel_rfl) (by kernel_rfl) (fun _ _ _ h => h) (Or.inl ⟨by rfl, ?_⟩) (by assumption) ?_
      rotate_left
      focus ((intro w hSw; (try dsimp only at hSw); go_simp); try with_reducible rfl)
      (try simp only [Act.put, List.getElem_toArray, List.getElem_cons_zero, List.getElem_cons_succ, List.setIfInBounds_toArray, List.set_cons_zero, List.set_cons_succ])
      refine wpAnyJ_take0 (i := 4) (v := ?_) rfl (by kernel_rfl) (by kernel_rfl) (by kernel_rfl) (fun _ _ _ h => h) (Or.inl ⟨by rfl, ?_⟩) ?_
      rotate_left
      focus ((intro w hSw; clear hSw; go_simp); try with_reducible rfl)
      (try simp only [Act.put, List.getElem_toArray, List.getElem_cons_zero, List.getElem_cons_succ, List.setIfInBounds_toArray, List.set_cons_zero, List.set_cons_succ])
      refine wpAnyJ_take0 (i := 5) (v := ?_) rfl (by kernel_rfl) (by kernel_rfl) (by kernel_rfl) (fun _ _ _ h => h) (Or.inl ⟨by rfl, ?_⟩) ?_
      rotate_left
      focus ((intro w hSw; clear hSw; go_simp); try with_reducible rfl)
      (try simp only [Act.put, List.getElem_toArray, List.getElem_cons_zero, List.getElem_cons_succ, List.setIfInBounds_toArray, List.set_cons_zero, List.set_cons_succ])
      refine wpAnyJ_take0 (i := 6) (v := ?_) rfl (by kernel_rfl) (by kernel_rfl) (by kernel_rfl) (fun _ _ _ h => h) (Or.inl ⟨by rfl, ?_⟩) ?_
      rotate_left
      focus ((intro w hSw; clear hSw; go_simp); try with_reducible rfl)
      (try simp only [Act.put, List.getElem_toArray, List.getElem_cons_zero, List.getElem_cons_succ, List.setIfInBounds_toArray, List.set_cons_zero, List.set_cons_succ])
      refine wpAnyJ_take0 (i := 7) (v := ?_) rfl (by kernel_rfl) (by kernel_rfl) (by kernel_rfl) (fun _ _ _ h => h) (Or.inl ⟨by rfl, ?_⟩) ?_
      rotate_left
      focus ((intro w hSw; clear hSw; go_simp); try with_reducible rfl)
      (try simp only [Act.put, List.getElem_toArray, List.getElem_cons_zero, List.getElem_cons_succ, List.setIfInBounds_toArray, List.set_cons_zero, List.set_cons_succ])
      refine wpAnyJ_take (i := 8) (v := ?_) rfl (by kernel_rfl) (by kernel_rfl) (by kernel_rfl) (by kernel_rfl) (fun _ _ _ h => h) (Or.inl ⟨by rfl, ?_⟩) (by assumption) ?_
      rotate_left
      focus ((intro w hSw; (try dsimp only at hSw); go_simp); try with_reducible rfl)
      (try simp only [Act.put, List.getElem_toArray, List.getElem_cons_zero, List.getElem_cons_succ, List.setIfInBounds_toArray, List.set_cons_zero, List.set_cons_succ])
      refine wpAnyJ_take0 (i := 9) (v := ?_) rfl (by kernel_rfl) (by kernel_rfl) (by kernel_rfl) (fun _ _ _ h => h) (Or.inl ⟨by rfl, ?_⟩) ?_
      rotate_left
      focus ((intro w hSw; clear hSw; go_simp); try with_reducible rfl)
      (try simp only [Act.put, List.getElem_toArray, List.getElem_cons_zero, List.getElem_cons_succ, List.setIfInBounds_toArray, List.set_cons_zero, List.set_cons_succ])
      refine wpAnyJ_take (i := 10) (v := ?_) rfl (by kernel_rfl) (by kernel_rfl) (by kernel_rfl) (by kernel_rfl) (fun _ _ _ h => h) (Or.inl ⟨by rfl, ?_⟩) (by assumption) ?_
      rotate_left
      focus ((intro w hSw; (try dsimp only at hSw); go_simp); try with_reducible rfl)
      (try simp only [Act.put, List.getElem_toArray, List.getElem_cons_zero, List.getElem_cons_succ, List.setIfInBounds_toArray, List.set_cons_zero, List.set_cons_succ])
      refine wpAnyJ_take0 (i := 11) (v := ?_) rfl (by kernel_rfl) (by kernel_rfl) (by kernel_rfl) (fun _ _ _ h => h) (Or.inl ⟨by rfl, ?_⟩) ?_
      rotate_left
      focus ((intro w hSw; clear hSw; go_simp); try with_reducible rfl)
      (try simp only [Act.put, List.getElem_toArray, List.getElem_cons_zero, List.getElem_cons_succ, List.setIfInBounds_toArray, List.set_cons_zero, List.set_cons_succ])
      refine wpAnyJ_ready (rs := [12]) (by kernel_rfl) (by simp) ?_
      refine AllReadyJ.cons rfl (fun KK hKK => ?_) AllReadyJ.nil
      go_simp
      refine hKK.out _ _ (fun h => absurd h (by decide)) ?_
      clear hKK KK hHeld
      (try simp only [Act.put, List.getElem_toArray, List.getElem_cons_zero, List.getElem_cons_succ, List.setIfInBounds_toArray, List.set_cons_zero, List.set_cons_succ])
      refine wpAnyJ_done (by kernel_rfl) ?_ _
      refine NoPanic.normal ?_
      have h3 := T2.n.set1 (fun k => by have := T2.one k; omega) t x'
      have T3 := Lib.hid (T2.upd_n h3.1 h3.2).drew
      clear T2 h3 kz2 kx2 fz2
      go_wp2_with fail
      rw [← HQ.out]
      refine ⟨rfl, _, results_none rfl _ _ _, rfl, ?_⟩
      rw [HA.out, HVA.out]
      exact ⟨_, _, _, _, _, _, _, _, _, T3.out⟩
    · go_simp
      replace HST := HST.alloc (.int .i64 y) 2
      have hH2 : (fun u : World => u.cell? ⟨pb, 0, none⟩ = some (.slice ab1 kb cb1) ∧ u.cell? ⟨pb, 1, none⟩ = some (.slice ab2 vb cb2) ∧ u.cell? ⟨pa, 0, none⟩ = some (.slice (some ⟨ga, 0, none⟩) (kk + 1) ca1) ∧ u.cell? ⟨pa, 1, none⟩ = some (.slice (some ⟨ga2, 0, none⟩) (kk + 1) ca2) ∧ u.cell? ⟨ga, 0, none⟩ = some (.string x) ∧ u.cell? ⟨ga2, 0, none⟩ = some (.int .i64 y)) (u0.alloc (.cells #[.int .i64 y] 2)) := ⟨HST.cell.1, HST.cell.2.1, HST.other da0 z1, HST.other da1 z1, HST.other kx z2, HST.other ky z3⟩
      refine hKK.out _ _ (fun _ _ => hH2) ?_
      clear hKK KK
      generalize u0.heap.size = vb2 at HST ⊢
      generalize u0.alloc (.cells #[.int .i64 y] 2) = u1 at HST hH2 ⊢
      clear hHeld
      have hHeld := hH2
      clear hH2
      clear u0
      revert u1
      intro u0 HST hHeld
      (try simp only [Act.put, List.getElem_toArray, List.getElem_cons_zero, List.getElem_cons_succ, List.setIfInBounds_toArray, List.set_cons_zero, List.set_cons_succ])
      refine wpAnyJ_ready (rs := [13]) (by kernel_rfl) (by simp) ?_
      refine AllReadyJ.cons rfl (fun KK hKK => ?_) AllReadyJ.nil
      refine step_append_arr (by rfl) _ _ 27 (by rfl) Try.underlying27 siS szS s1S s2S rfl (by decide) _ _ _ ((Kb).map Value.string) (by rfl) HST.r1 (str_one _) (some ⟨vb1, 0, none⟩) (1) 1 _ (([x]).map Value.string) (by rfl) (by simp) (str_one _) (fun h => by cases h) (HST.one (t := 9) (by simp)) (by have := HSZ.out.1; simp; omega) ?_
      intro x1 c1 u1 h1 h2 h3
      have HST2 := HST.row1 h2 h3 (by rw [← List.map_append] at h1; exact h1)
      clear h1 h2 h3 HST
      have HST := HST2
      clear HST2
      have hH2 : (fun u : World => u.cell? ⟨pb, 0, none⟩ = some (.slice ab1 kb cb1) ∧ u.cell? ⟨pb, 1, none⟩ = some (.slice ab2 vb cb2) ∧ u.cell? ⟨pa, 0, none⟩ = some (.slice (some ⟨ga, 0, none⟩) (kk + 1) ca1) ∧ u.cell? ⟨pa, 1, none⟩ = some (.slice (some ⟨ga2, 0, none⟩) (kk + 1) ca2) ∧ u.cell? ⟨ga, 0, none⟩ = some (.string x) ∧ u.cell? ⟨ga2, 0, none⟩ = some (.int .i64 y)) u1 := ⟨HST.cell.1, HST.cell.2.1, HST.other da0 z1, HST.other da1 z1, HST.other kx z2, HST.other ky z3⟩
      refine hKK.out _ _ (fun _ _ => hH2) ?_
      clear hKK KK
      clear hHeld
      have hHeld := hH2
      clear hH2 u0
      revert u1
      intro u0 HST hHeld
      (try simp only [Act.put, List.getElem_toArray, List.getElem_cons_zero, List.getElem_cons_succ, List.setIfInBounds_toArray, List.set_cons_zero, List.set_cons_succ])
      refine wpAnyJ_ready (rs := [25]) (by kernel_rfl) (by simp) ?_
      refine AllReadyJ.cons rfl (fun KK hKK => ?_) AllReadyJ.nil
      refine step_append_arr (by rfl) _ _ 28 (by rfl) Try.underlying28 siI szI s1I s2I rfl (by decide) _ _ _ ((Vb).map numV) (by rfl) HST.r2 (num_one _) (some ⟨vb2, 0, none⟩) (1) 1 _ (([y]).map numV) (by rfl) (by simp) (num_one _) (fun h => by cases h) (HST.one (t := 2) (by simp [numV])) (by have := HSZ.out.2; simp; omega) ?_
      intro x2 c2 u1 h1 h2 h3
      have HST2 := HST.row2 h2 h3 (by rw [← List.map_append] at h1; exact h1)
      clear h1 h2 h3 HST
      have HST := HST2
      clear HST2
      have hH2 : (fun u : World => u.cell? ⟨pb, 0, none⟩ = some (.slice ab1 kb cb1) ∧ u.cell? ⟨pb, 1, none⟩ = some (.slice ab2 vb cb2) ∧ u.cell? ⟨pa, 0, none⟩ = some (.slice (some ⟨ga, 0, none⟩) (kk + 1) ca1) ∧ u.cell? ⟨pa, 1, none⟩ = some (.slice (some ⟨ga2, 0, none⟩) (kk + 1) ca2) ∧ u.cell? ⟨ga, 0, none⟩ = some (.string x) ∧ u.cell? ⟨ga2, 0, none⟩ = some (.int .i64 y)) u1 := ⟨HST.cell.1, HST.cell.2.1, HST.other da0 z1, HST.other da1 z1, HST.other kx z2, HST.other ky z3⟩
      refine hKK.out _ _ (fun _ _ => hH2) ?_
      clear hKK KK
      clear hHeld
      have hHeld := hH2
      clear hH2 u0
      revert u1
      intro u0 HST hHeld
      (try simp only [Act.put, List.getElem_toArray, List.getElem_cons_zero, List.getElem_cons_succ, List.setIfInBounds_toArray, List.set_cons_zero, List.set_cons_succ])
      refine wpAnyJ_take0 (i := 26) (v := ?_) rfl (by kernel_rfl) (by kernel_rfl) (by kernel_rfl) (fun _ _ _ h => h) (Or.inl ⟨by rfl, ?_⟩) ?_
      rotate_left
      focus ((intro w hSw; clear hSw; go_simp); try with_reducible rfl)
      (try simp only [Act.put, List.getElem_toArray, List.getElem_cons_zero, List.getElem_cons_succ, List.setIfInBounds_toArray, List.set_cons_zero, List.set_cons_succ])
      refine wpAnyJ_take0 (i := 27) (v := ?_) rfl (by kernel_rfl) (by kernel_rfl) (by kernel_rfl) (fun _ _ _ h => h) (Or.inl ⟨by rfl, ?_⟩) ?_
      rotate_left
      focus ((intro w hSw; clear hSw; go_simp); try with_reducible rfl)
      (try simp only [Act.put, List.getElem_toArray, List.getElem_cons_zero, List.getElem_cons_succ, List.setIfInBounds_toArray, List.set_cons_zero, List.set_cons_succ])
      refine wpAnyJ_ready (rs := [28]) (by kernel_rfl) (by simp) ?_
      refine AllReadyJ.cons rfl (fun KK hKK => ?_) AllReadyJ.nil
      have hz1 := HST.cell.2.2.2 0
      have hz2 := HST.cell.1
      go_simp
      clear hz1 hz2
      replace HST := HST.put0 (.slice x1 (kb + 1) c1)
      refine hKK.out _ _ (fun h => absurd h (by decide)) ?_
      clear hKK KK
      generalize u0.setCell ⟨pb, 0, none⟩ (.slice x1 (kb + 1) c1) = u1 at HST ⊢
      (try clear hHeld)
      clear u0
      revert u1
      intro u0 HST
      (try simp only [Act.put, List.getElem_toArray, List.getElem_cons_zero, List.getElem_cons_succ, List.setIfInBounds_toArray, List.set_cons_zero, List.set_cons_succ])
      refine wpAnyJ_take0 (i := 29) (v := ?_) rfl (by kernel_rfl) (by kernel_rfl) (by kernel_rfl) (fun _ _ _ h => h) (Or.inl ⟨by rfl, ?_⟩) ?_
      rotate_left
      focus ((intro w hSw; clear hSw; go_simp); try with_reducible rfl)
      (try simp only [Act.put, List.getElem_toArray, List.getElem_cons_zero, List.getElem_cons_succ, List.setIfInBounds_toArray, List.set_cons_zero, List.set_cons_succ])
      refine wpAnyJ_take0 (i := 30) (v := ?_) rfl (by kernel_rfl) (by kernel_rfl) (by kernel_rfl) (fun _ _ _ h => h) (Or.inl ⟨by rfl, ?_⟩) ?_
      rotate_left
      focus ((intro w hSw; clear hSw; go_simp); try with_reducible rfl)
      (try simp only [Act.put, List.getElem_toArray, List.getElem_cons_zero, List.getElem_cons_succ, List.setIfInBounds_toArray, List.set_cons_zero, List.set_cons_succ])
      refine wpAnyJ_ready (rs := [31]) (by kernel_rfl) (by simp) ?_
      refine AllReadyJ.cons rfl (fun KK hKK => ?_) AllReadyJ.nil
      have hz1 := HST.cell.2.2.2 1
      have hz2 := HST.cell.2.1
      go_simp
      clear hz1 hz2
      replace HST := HST.put1 (.slice x2 (vb + 1) c2)
      refine hKK.out _ _ (fun h => absurd h (by decide)) ?_
      clear hKK KK
      generalize u0.setCell ⟨pb, 1, none⟩ (.slice x2 (vb + 1) c2) = u1 at HST ⊢
      (try clear hHeld)
      clear u0
      revert u1
      intro u0 HST
      (try simp only [Act.put, List.getElem_toArray, List.getElem_cons_zero, List.getElem_cons_succ, List.setIfInBounds_toArray, List.set_cons_zero, List.set_cons_succ])
      refine wpAnyJ_done (by kernel_rfl) ?_ _
      refine NoPanic.normal ?_
      have T1 := TT.out.upd_b HST.end HST.fr
      obtain ⟨_, ea1, _, _, _, _⟩ := T1.a.cells
      have HA1 := Lib.hid (St.start T1.a (fun k => by have := T1.one k; omega))
      have T1 := Lib.hid T1
      clear HST
      go_wp2_with fail
      refine (HA1.out.del2 (i := 0) (by rw [HVA.out]; omega) (by rw [HVA.out]; omega) 1 rfl 0 rfl).mono ?_
      rintro e u1 ⟨rfl, h2⟩
      have k1 := h2.cell.2.2.2 1
      have k2 := h2.cell.2.1
      have HA2 := Lib.hid (h2.put1 (.slice (some ⟨ga2, 0, none⟩) (kk + 1 - 1) ca2))
      have k0 := h2.cell.1
      clear h2 HA1 ea1
      have hsub : kk + 1 - 1 = kk := by omega
      rw [hsub] at HA2
      clear hsub
      go_wp2_with fail
      refine (HA2.out.del1 (i := 0) (by rw [HA.out]; omega) (by rw [HA.out]; omega) 1 rfl 0 rfl).mono ?_
      rintro e u3 ⟨rfl, h2⟩
      clear k0 k1 k2
      have k1 := h2.cell.2.2.2 0
      have k2 := h2.cell.1
      have HA3 := h2.put0 (.slice (some ⟨ga, 0, none⟩) (kk + 1 - 1) ca1)
      have hsub : kk + 1 - 1 = kk := by omega
      rw [hsub] at HA3
      clear hsub h2 HA2
      have T2 := T1.out.upd_a HA3.end HA3.fr
      clear HA3
      have T2 := Lib.hid T2
      go_wp2_with fail
      have T2 := T2.out
      generalize u3.setCell ⟨pa, 0, none⟩ (.slice (some ⟨ga, 0, none⟩) kk ca1) = u2 at T2 ⊢
      clear k1 k2 T1
      obtain ⟨_, e9, kx2, _⟩ := T2.drew.a.key HX.out
      injection e9 with e9
      injection e9 with e9 _
      subst e9
      obtain ⟨_, e9, kz2, fz2⟩ := T2.drew.n.key HZ.out
      injection e9 with e9
      injection e9 with e9 _
      subst e9
      refine wp_region_noPanic ?_
      refine wp_region_J (S := fun u : World => u.cell? ⟨pn, 0, none⟩ = some (.slice (some ⟨gn, 0, none⟩) kn cn1) ∧ u.cell? ⟨pa, 0, none⟩ = some (.slice (some ⟨ga, 0, none⟩) kk ca1) ∧ u.cell? ⟨ga, 0, none⟩ = some (.string x')) (fun j => j == 12) (by kernel_rfl) ?_
      have hHeld : (fun u : World => u.cell? ⟨pn, 0, none⟩ = some (.slice (some ⟨gn, 0, none⟩) kn cn1) ∧ u.cell? ⟨pa, 0, none⟩ = some (.slice (some ⟨ga, 0, none⟩) kk ca1) ∧ u.cell? ⟨ga, 0, none⟩ = some (.string x')) u2.drew := ⟨T2.drew.n.cells.1, T2.drew.a.cells.1, kx2⟩
      refine wpAnyJ_take0 (i := 0) (v := ?_) rfl (by kernel_rfl) (by kernel_rfl) (by kernel_rfl) (fun _ _ _ h => h) (Or.inl ⟨by rfl, ?_⟩) ?_
      rotate_left
      focus ((intro w hSw; clear hSw; go_simp); try with_reducible rfl)
      (try simp only [Act.put, List.getElem_toArray, List.getElem_cons_zero, List.getElem_cons_succ, List.setIfInBounds_toArray, List.set_cons_zero, List.set_cons_succ])
      refine wpAnyJ_take0 (i := 1) (v := ?_) rfl (by kernel_rfl) (by kernel_rfl) (by kernel_rfl) (fun _ _ _ h => h) (Or.inl ⟨by rfl, ?_⟩) ?_
      rotate_left
      focus ((intro w hSw; clear hSw; go_simp); try with_reducible rfl)
      (try simp only [Act.put, List.getElem_toArray, List.getElem_cons_zero, List.getElem_cons_succ, List.setIfInBounds_toArray, List.set_cons_zero, List.set_cons_succ])
      refine wpAnyJ_take0 (i := 2) (v := ?_) rfl (by kernel_rfl) (by kernel_rfl) (by kernel_rfl) (fun _ _ _ h => h) (Or.inl ⟨by rfl, ?_⟩) ?_
      rotate_left
      focus ((intro w hSw; clear hSw; go_simp); try with_reducible rfl)
      (try simp only [Act.put, List.getElem_toArray, List.getElem_cons_zero, List.getElem_cons_succ, List.setIfInBounds_toArray, List.set_cons_zero, List.set_cons_succ])
      refine wpAnyJ_take (i := 3) (v := ?_) rfl (by kernel_rfl) (by kernel_rfl) (by kernel_rfl) (by kernel_rfl) (fun _ _ _ h => h) (Or.inl ⟨by rfl, ?_⟩) (by assumption) ?_
      rotate_left
      focus ((intro w hSw; (try dsimp only at hSw); go_simp); try with_reducible rfl)
      (try simp only [Act.put, List.getElem_toArray, List.getElem_cons_zero, List.getElem_cons_succ, List.setIfInBounds_toArray, List.set_cons_zero, List.set_cons_succ])
      refine wpAnyJ_take0 (i := 4) (v := ?_) rfl (by kernel_rfl) (by kernel_rfl) (by kernel_rfl) (fun _ _ _ h => h) (Or.inl ⟨by rfl, ?_⟩) ?_
      rotate_left
      focus ((intro w hSw; clear hSw; go_simp); try with_reducible rfl)
      (try simp only [Act.put, List.getElem_toArray, List.getElem_cons_zero, List.getElem_cons_succ, List.setIfInBounds_toArray, List.set_cons_zero, List.set_cons_succ])
      refine wpAnyJ_take0 (i := 5) (v := ?_) rfl (by kernel_rfl) (by kernel_rfl) (by kernel_rfl) (fun _ _ _ h => h) (Or.inl ⟨by rfl, ?_⟩) ?_
      rotate_left
      focus ((intro w hSw; clear hSw; go_simp); try with_reducible rfl)
      (try simp only [Act.put, List.getElem_toArray, List.getElem_cons_zero, List.getElem_cons_succ, List.setIfInBounds_toArray, List.set_cons_zero, List.set_cons_succ])
      refine wpAnyJ_take0 (i := 6) (v := ?_) rfl (by kernel_rfl) (by kernel_rfl) (by kernel_rfl) (fun _ _ _ h => h) (Or.inl ⟨by rfl, ?_⟩) ?_
      rotate_left
      focus ((intro w hSw; clear hSw; go_simp); try with_reducible rfl)
      (try simp only [Act.put, List.getElem_toArray, List.getElem_cons_zero, List.getElem_cons_succ, List.setIfInBounds_toArray, List.set_cons_zero, List.set_cons_succ])
      refine wpAnyJ_take0 (i := 7) (v := ?_) rfl (by kernel_rfl) (by kernel_rfl) (by kernel_rfl) (fun _ _ _ h => h) (Or.inl ⟨by rfl, ?_⟩) ?_
      rotate_left
      focus ((intro w hSw; clear hSw; go_simp); try with_reducible rfl)
      (try simp only [Act.put, List.getElem_toArray, List.getElem_cons_zero, List.getElem_cons_succ, List.setIfInBounds_toArray, List.set_cons_zero, List.set_cons_succ])
      refine wpAnyJ_take (i := 8) (v := ?_) rfl (by kernel_rfl) (by kernel_rfl) (by kernel_rfl) (by kernel_rfl) (fun _ _ _ h => h) (Or.inl ⟨by rfl, ?_⟩) (by assumption) ?_
      rotate_left
      focus ((intro w hSw; (try dsimp only at hSw); go_simp); try with_reducible rfl)
      (try simp only [Act.put, List.getElem_toArray, List.getElem_cons_zero, List.getElem_cons_succ, List.setIfInBounds_toArray, List.set_cons_zero, List.set_cons_succ])
      refine wpAnyJ_take0 (i := 9) (v := ?_) rfl (by kernel_rfl) (by kernel_rfl) (by kernel_rfl) (fun _ _ _ h => h) (Or.inl ⟨by rfl, ?_⟩) ?_
      rotate_left
      focus ((intro w hSw; clear hSw; go_simp); try with_reducible rfl)
      (try simp only [Act.put, List.getElem_toArray, List.getElem_cons_zero, List.getElem_cons_succ, List.setIfInBounds_toArray, List.set_cons_zero, List.set_cons_succ])
      refine wpAnyJ_take (i := 10) (v := ?_) rfl (by kernel_rfl) (by kernel_rfl) (by kernel_rfl) (by kernel_rfl) (fun _ _ _ h => h) (Or.inl ⟨by rfl, ?_⟩) (by assumption) ?_
      rotate_left
      focus ((intro w hSw; (try dsimp only at hSw); go_simp); try with_reducible rfl)
      (try simp only [Act.put, List.getElem_toArray, List.getElem_cons_zero, List.getElem_cons_succ, List.setIfInBounds_toArray, List.set_cons_zero, List.set_cons_succ])
      refine wpAnyJ_take0 (i := 11) (v := ?_) rfl (by kernel_rfl) (by kernel_rfl) (by kernel_rfl) (fun _ _ _ h => h) (Or.inl ⟨by rfl, ?_⟩) ?_
      rotate_left
      focus ((intro w hSw; clear hSw; go_simp); try with_reducible rfl)
      (try simp only [Act.put, List.getElem_toArray, List.getElem_cons_zero, List.getElem_cons_succ, List.setIfInBounds_toArray, List.set_cons_zero, List.set_cons_succ])
      refine wpAnyJ_ready (rs := [12]) (by kernel_rfl) (by simp) ?_
      refine AllReadyJ.cons rfl (fun KK hKK => ?_) AllReadyJ.nil
      go_simp
      refine hKK.out _ _ (fun h => absurd h (by decide)) ?_
      clear hKK KK hHeld
      (try simp only [Act.put, List.getElem_toArray, List.getElem_cons_zero, List.getElem_cons_succ, List.setIfInBounds_toArray, List.set_cons_zero, List.set_cons_succ])
      refine wpAnyJ_done (by kernel_rfl) ?_ _
      refine NoPanic.normal ?_
      have h3 := T2.n.set1 (fun k => by have := T2.one k; omega) t x'
      have T3 := Lib.hid (T2.upd_n h3.1 h3.2).drew
      clear T2 h3 kz2 kx2 fz2
      go_wp2_with fail
      rw [← HQ.out]
      refine ⟨rfl, _, results_none rfl _ _ _, rfl, ?_⟩
      rw [HA.out, HVA.out]
      exact ⟨_, _, _, _, _, _, _, _, _, T3.out⟩
  · go_simp
    replace HST := HST.alloc (.int .i64 y) 2
    have hH2 : (fun u : World => u.cell? ⟨pb, 0, none⟩ = some (.slice ab1 kb cb1) ∧ u.cell? ⟨pb, 1, none⟩ = some (.slice ab2 vb cb2) ∧ u.cell? ⟨pa, 0, none⟩ = some (.slice (some ⟨ga, 0, none⟩) (kk + 1) ca1) ∧ u.cell? ⟨pa, 1, none⟩ = some (.slice (some ⟨ga2, 0, none⟩) (kk + 1) ca2) ∧ u.cell? ⟨ga, 0, none⟩ = some (.string x) ∧ u.cell? ⟨ga2, 0, none⟩ = some (.int .i64 y)) (u0.alloc (.cells #[.int .i64 y] 2)) := ⟨HST.cell.1, HST.cell.2.1, HST.other da0 z1, HST.other da1 z1, HST.other kx z2, HST.other ky z3⟩
    refine hKK.out _ _ (fun _ _ => hH2) ?_
    clear hKK KK
    generalize u0.heap.size = vb2 at HST ⊢
    generalize u0.alloc (.cells #[.int .i64 y] 2) = u1 at HST hH2 ⊢
    clear hHeld
    have hHeld := hH2
    clear hH2
    clear u0
    revert u1
    intro u0 HST hHeld
    (try simp only [Act.put, List.getElem_toArray, List.getElem_cons_zero, List.getElem_cons_succ, List.setIfInBounds_toArray, List.set_cons_zero, List.set_cons_succ])
    refine wpAnyJ_ready (rs := [12]) (by kernel_rfl) (by simp) ?_
    refine AllReadyJ.cons rfl (fun KK hKK => ?_) AllReadyJ.nil
    go_simp
    replace HST := HST.alloc (.string x) 9
    have hH2 : (fun u : World => u.cell? ⟨pb, 0, none⟩ = some (.slice ab1 kb cb1) ∧ u.cell? ⟨pb, 1, none⟩ = some (.slice ab2 vb cb2) ∧ u.cell? ⟨pa, 0, none⟩ = some (.slice (some ⟨ga, 0, none⟩) (kk + 1) ca1) ∧ u.cell? ⟨pa, 1, none⟩ = some (.slice (some ⟨ga2, 0, none⟩) (kk + 1) ca2) ∧ u.cell? ⟨ga, 0, none⟩ = some (.string x) ∧ u.cell? ⟨ga2, 0, none⟩ = some (.int .i64 y)) (u0.alloc (.cells #[.string x] 9)) := ⟨HST.cell.1, HST.cell.2.1, HST.other da0 z1, HST.other da1 z1, HST.other kx z2, HST.other ky z3⟩
    refine hKK.out _ _ (fun _ _ => hH2) ?_
    clear hKK KK
    generalize u0.heap.size = vb1 at HST ⊢
    generalize u0.alloc (.cells #[.string x] 9) = u1 at HST hH2 ⊢
    clear hHeld
    have hHeld := hH2
    clear hH2
    clear u0
    revert u1
    intro u0 HST hHeld
    (try simp only [Act.put, List.getElem_toArray, List.getElem_cons_zero, List.getElem_cons_succ, List.setIfInBounds_toArray, List.set_cons_zero, List.set_cons_succ])
    refine wpAnyJ_ready (rs := [13]) (by kernel_rfl) (by simp) ?_
    refine AllReadyJ.cons rfl (fun KK hKK => ?_) AllReadyJ.nil
    refine step_append_arr (by rfl) _ _ 27 (by rfl) Try.underlying27 siS szS s1S s2S rfl (by decide) _ _ _ ((Kb).map Value.string) (by rfl) HST.r1 (str_one _) (some ⟨vb1, 0, none⟩) (1) 1 _ (([x]).map Value.string) (by rfl) (by simp) (str_one _) (fun h => by cases h) (HST.one (t := 9) (by simp)) (by have := HSZ.out.1; simp; omega) ?_
    intro x1 c1 u1 h1 h2 h3
    have HST2 := HST.row1 h2 h3 (by rw [← List.map_append] at h1; exact h1)
    clear h1 h2 h3 HST
    have HST := HST2
    clear HST2
    have hH2 : (fun u : World => u.cell? ⟨pb, 0, none⟩ = some (.slice ab1 kb cb1) ∧ u.cell? ⟨pb, 1, none⟩ = some (.slice ab2 vb cb2) ∧ u.cell? ⟨pa, 0, none⟩ = some (.slice (some ⟨ga, 0, none⟩) (kk + 1) ca1) ∧ u.cell? ⟨pa, 1, none⟩ = some (.slice (some ⟨ga2, 0, none⟩) (kk + 1) ca2) ∧ u.cell? ⟨ga, 0, none⟩ = some (.string x) ∧ u.cell? ⟨ga2, 0, none⟩ = some (.int .i64 y)) u1 := ⟨HST.cell.1, HST.cell.2.1, HST.other da0 z1, HST.other da1 z1, HST.other kx z2, HST.other ky z3⟩
    refine hKK.out _ _ (fun _ _ => hH2) ?_
    clear hKK KK
    clear hHeld
    have hHeld := hH2
    clear hH2 u0
    revert u1
    intro u0 HST hHeld
    (try simp only [Act.put, List.getElem_toArray, List.getElem_cons_zero, List.getElem_cons_succ, List.setIfInBounds_toArray, List.set_cons_zero, List.set_cons_succ])
    refine wpAnyJ_ready (rs := [25]) (by kernel_rfl) (by simp) ?_
    refine AllReadyJ.cons rfl (fun KK hKK => ?_) AllReadyJ.nil
    refine step_append_arr (by rfl) _ _ 28 (by rfl) Try.underlying28 siI szI s1I s2I rfl (by decide) _ _ _ ((Vb).map numV) (by rfl) HST.r2 (num_one _) (some ⟨vb2, 0, none⟩) (1) 1 _ (([y]).map numV) (by rfl) (by simp) (num_one _) (fun h => by cases h) (HST.one (t := 2) (by simp [numV])) (by have := HSZ.out.2; simp; omega) ?_
    intro x2 c2 u1 h1 h2 h3
    have HST2 := HST.row2 h2 h3 (by rw [← List.map_append] at h1; exact h1)
    clear h1 h2 h3 HST
    have HST := HST2
    clear HST2
    have hH2 : (fun u : World => u.cell? ⟨pb, 0, none⟩ = some (.slice ab1 kb cb1) ∧ u.cell? ⟨pb, 1, none⟩ = some (.slice ab2 vb cb2) ∧ u.cell? ⟨pa, 0, none⟩ = some (.slice (some ⟨ga, 0, none⟩) (kk + 1) ca1) ∧ u.cell? ⟨pa, 1, none⟩ = some (.slice (some ⟨ga2, 0, none⟩) (kk + 1) ca2) ∧ u.cell? ⟨ga, 0, none⟩ = some (.string x) ∧ u.cell? ⟨ga2, 0, none⟩ = some (.int .i64 y)) u1 := ⟨HST.cell.1, HST.cell.2.1, HST.other da0 z1, HST.other da1 z1, HST.other kx z2, HST.other ky z3⟩
    refine hKK.out _ _ (fun _ _ => hH2) ?_
    clear hKK KK
    clear hHeld
    have hHeld := hH2
    clear hH2 u0
    revert u1
    intro u0 HST hHeld
    (try simp only [Act.put, List.getElem_toArray, List.getElem_cons_zero, List.getElem_cons_succ, List.setIfInBounds_toArray, List.set_cons_zero, List.set_cons_succ])
    refine wpAnyJ_take0 (i := 26) (v := ?_) rfl (by kernel_rfl) (by kernel_rfl) (by kernel_rfl) (fun _ _ _ h => h) (Or.inl ⟨by rfl, ?_⟩) ?_
    rotate_left
    focus ((intro w hSw; clear hSw; go_simp); try with_reducible rfl)
    (try simp only [Act.put, List.getElem_toArray, List.getElem_cons_zero, List.getElem_cons_succ, List.setIfInBounds_toArray, List.set_cons_zero, List.set_cons_succ])
    refine wpAnyJ_take0 (i := 27) (v := ?_) rfl (by kernel_rfl) (by kernel_rfl) (by kernel_rfl) (fun _ _ _ h => h) (Or.inl ⟨by rfl, ?_⟩) ?_
    rotate_left
    focus ((intro w hSw; clear hSw; go_simp); try with_reducible rfl)
    (try simp only [Act.put, List.getElem_toArray, List.getElem_cons_zero, List.getElem_cons_succ, List.setIfInBounds_toArray, List.set_cons_zero, List.set_cons_succ])
    refine wpAnyJ_ready (rs := [28]) (by kernel_rfl) (by simp) ?_
    refine AllReadyJ.cons rfl (fun KK hKK => ?_) AllReadyJ.nil
    have hz1 := HST.cell.2.2.2 0
    have hz2 := HST.cell.1
    go_simp
    clear hz1 hz2
    replace HST := HST.put0 (.slice x1 (kb + 1) c1)
    refine hKK.out _ _ (fun h => absurd h (by decide)) ?_
    clear hKK KK
    generalize u0.setCell ⟨pb, 0, none⟩ (.slice x1 (kb + 1) c1) = u1 at HST ⊢
    (try clear hHeld)
    clear u0
    revert u1
    intro u0 HST
    (try simp only [Act.put, List.getElem_toArray, List.getElem_cons_zero, List.getElem_cons_succ, List.setIfInBounds_toArray, List.set_cons_zero, List.set_cons_succ])
    refine wpAnyJ_take0 (i := 29) (v := ?_) rfl (by kernel_rfl) (by kernel_rfl) (by kernel_rfl) (fun _ _ _ h => h) (Or.inl ⟨by rfl, ?_⟩) ?_
    rotate_left
    focus ((intro w hSw; clear hSw; go_simp); try with_reducible rfl)
    (try simp only [Act.put, List.getElem_toArray, List.getElem_cons_zero, List.getElem_cons_succ, List.setIfInBounds_toArray, List.set_cons_zero, List.set_cons_succ])
    refine wpAnyJ_take0 (i := 30) (v := ?_) rfl (by kernel_rfl) (by kernel_rfl) (by kernel_rfl) (fun _ _ _ h => h) (Or.inl ⟨by rfl, ?_⟩) ?_
    rotate_left
    focus ((intro w hSw; clear hSw; go_simp); try with_reducible rfl)
    (try simp only [Act.put, List.getElem_toArray, List.getElem_cons_zero, List.getElem_cons_succ, List.setIfInBounds_toArray, List.set_cons_zero, List.set_cons_succ])
    refine wpAnyJ_ready (rs := [31]) (by kernel_rfl) (by simp) ?_
    refine AllReadyJ.cons rfl (fun KK hKK => ?_) AllReadyJ.nil
    have hz1 := HST.cell.2.2.2 1
    have hz2 := HST.cell.2.1
    go_simp
    clear hz1 hz2
    replace HST := HST.put1 (.slice x2 (vb + 1) c2)
    refine hKK.out _ _ (fun h => absurd h (by decide)) ?_
    clear hKK KK
    generalize u0.setCell ⟨pb, 1, none⟩ (.slice x2 (vb + 1) c2) = u1 at HST ⊢
    (try clear hHeld)
    clear u0
    revert u1
    intro u0 HST
    (try simp only [Act.put, List.getElem_toArray, List.getElem_cons_zero, List.getElem_cons_succ, List.setIfInBounds_toArray, List.set_cons_zero, List.set_cons_succ])
    refine wpAnyJ_done (by kernel_rfl) ?_ _
    refine NoPanic.normal ?_
    have T1 := TT.out.upd_b HST.end HST.fr
    obtain ⟨_, ea1, _, _, _, _⟩ := T1.a.cells
    have HA1 := Lib.hid (St.start T1.a (fun k => by have := T1.one k; omega))
    have T1 := Lib.hid T1
    clear HST
    go_wp2_with fail
    refine (HA1.out.del2 (i := 0) (by rw [HVA.out]; omega) (by rw [HVA.out]; omega) 1 rfl 0 rfl).mono ?_
    rintro e u1 ⟨rfl, h2⟩
    have k1 := h2.cell.2.2.2 1
    have k2 := h2.cell.2.1
    have HA2 := Lib.hid (h2.put1 (.slice (some ⟨ga2, 0, none⟩) (kk + 1 - 1) ca2))
    have k0 := h2.cell.1
    clear h2 HA1 ea1
    have hsub : kk + 1 - 1 = kk := by omega
    rw [hsub] at HA2
    clear hsub
    go_wp2_with fail
    refine (HA2.out.del1 (i := 0) (by rw [HA.out]; omega) (by rw [HA.out]; omega) 1 rfl 0 rfl).mono ?_
    rintro e u3 ⟨rfl, h2⟩
    clear k0 k1 k2
    have k1 := h2.cell.2.2.2 0
    have k2 := h2.cell.1
    have HA3 := h2.put0 (.slice (some ⟨ga, 0, none⟩) (kk + 1 - 1) ca1)
    have hsub : kk + 1 - 1 = kk := by omega
    rw [hsub] at HA3
    clear hsub h2 HA2
    have T2 := T1.out.upd_a HA3.end HA3.fr
    clear HA3
    have T2 := Lib.hid T2
    go_wp2_with fail
    have T2 := T2.out
    generalize u3.setCell ⟨pa, 0, none⟩ (.slice (some ⟨ga, 0, none⟩) kk ca1) = u2 at T2 ⊢
    clear k1 k2 T1
    obtain ⟨_, e9, kx2, _⟩ := T2.drew.a.key HX.out
    injection e9 with e9
    injection e9 with e9 _
    subst e9
    obtain ⟨_, e9, kz2, fz2⟩ := T2.drew.n.key HZ.out
    injection e9 with e9
    injection e9 with e9 _
    subst e9
    refine wp_region_noPanic ?_
    refine wp_region_J (S := fun u : World => u.cell? ⟨pn, 0, none⟩ = some (.slice (some ⟨gn, 0, none⟩) kn cn1) ∧ u.cell? ⟨pa, 0, none⟩ = some (.slice (some ⟨ga, 0, none⟩) kk ca1) ∧ u.cell? ⟨ga, 0, none⟩ = some (.string x')) (fun j => j == 12) (by kernel_rfl) ?_
    have hHeld : (fun u : World => u.cell? ⟨pn, 0, none⟩ = some (.slice (some ⟨gn, 0, none⟩) kn cn1) ∧ u.cell? ⟨pa, 0, none⟩ = some (.slice (some ⟨ga, 0, none⟩) kk ca1) ∧ u.cell? ⟨ga, 0, none⟩ = some (.string x')) u2.drew := ⟨T2.drew.n.cells.1, T2.drew.a.cells.1, kx2⟩
    refine wpAnyJ_take0 (i := 0) (v := ?_) rfl (by kernel_rfl) (by kernel_rfl) (by kernel_rfl) (fun _ _ _ h => h) (Or.inl ⟨by rfl, ?_⟩) ?_
    rotate_left
    focus ((intro w hSw; clear hSw; go_simp); try with_reducible rfl)
    (try simp only [Act.put, List.getElem_toArray, List.getElem_cons_zero, List.getElem_cons_succ, List.setIfInBounds_toArray, List.set_cons_zero, List.set_cons_succ])
    refine wpAnyJ_take0 (i := 1) (v := ?_) rfl (by kernel_rfl) (by kernel_rfl) (by kernel_rfl) (fun _ _ _ h => h) (Or.inl ⟨by rfl, ?_⟩) ?_
    rotate_left
    focus ((intro w hSw; clear hSw; go_simp); try with_reducible rfl)
    (try simp only [Act.put, List.getElem_toArray, List.getElem_cons_zero, List.getElem_cons_succ, List.setIfInBounds_toArray, List.set_cons_zero, List.set_cons_succ])
    refine wpAnyJ_take0 (i := 2) (v := ?_) rfl (by kernel_rfl) (by kernel_rfl) (by kernel_rfl) (fun _ _ _ h => h) (Or.inl ⟨by rfl, ?_⟩) ?_
    rotate_left
    focus ((intro w hSw; clear hSw; go_simp); try with_reducible rfl)
    (try simp only [Act.put, List.getElem_toArray, List.getElem_cons_zero, List.getElem_cons_succ, List.setIfInBounds_toArray, List.set_cons_zero, List.set_cons_succ])
    refine wpAnyJ_take (i := 3) (v := ?_) rfl (by kernel_rfl) (by kernel_rfl) (by kernel_rfl) (by kernel_rfl) (fun _ _ _ h => h) (Or.inl ⟨by rfl, ?_⟩) (by assumption) ?_
    rotate_left
    focus ((intro w hSw; (try dsimp only at hSw); go_simp); try with_reducible rfl)
    (try simp only [Act.put, List.getElem_toArray, List.getElem_cons_zero, List.getElem_cons_succ, List.setIfInBounds_toArray, List.set_cons_zero, List.set_cons_succ])
    refine wpAnyJ_take0 (i := 4) (v := ?_) rfl (by kernel_rfl) (by kernel_rfl) (by kernel_rfl) (fun _ _ _ h => h) (Or.inl ⟨by rfl, ?_⟩) ?_
    rotate_left
    focus ((intro w hSw; clear hSw; go_simp); try with_reducible rfl)
    (try simp only [Act.put, List.getElem_toArray, List.getElem_cons_zero, List.getElem_cons_succ, List.setIfInBounds_toArray, List.set_cons_zero, List.set_cons_succ])
    refine wpAnyJ_take0 (i := 5) (v := ?_) rfl (by kernel_rfl) (by kernel_rfl) (by kernel_rfl) (fun _ _ _ h => h) (Or.inl ⟨by rfl, ?_⟩) ?_
    rotate_left
    focus ((intro w hSw; clear hSw; go_simp); try with_reducible rfl)
    (try simp only [Act.put, List.getElem_toArray, List.getElem_cons_zero, List.getElem_cons_succ, List.setIfInBounds_toArray, List.set_cons_zero, List.set_cons_succ])
    refine wpAnyJ_take0 (i := 6) (v := ?_) rfl (by kernel_rfl) (by kernel_rfl) (by kernel_rfl) (fun _ _ _ h => h) (Or.inl ⟨by rfl, ?_⟩) ?_
    rotate_left
    focus ((intro w hSw; clear hSw; go_simp); try with_reducible rfl)
    (try simp only [Act.put, List.getElem_toArray, List.getElem_cons_zero, List.getElem_cons_succ, List.setIfInBounds_toArray, List.set_cons_zero, List.set_cons_succ])
    refine wpAnyJ_take0 (i := 7) (v := ?_) rfl (by kernel_rfl) (by kernel_rfl) (by kernel_rfl) (fun _ _ _ h => h) (Or.inl ⟨by rfl, ?_⟩) ?_
    rotate_left
    focus ((intro w hSw; clear hSw; go_simp); try with_reducible rfl)
    (try simp only [Act.put, List.getElem_toArray, List.getElem_cons_zero, List.getElem_cons_succ, List.setIfInBounds_toArray, List.set_cons_zero, List.set_cons_succ])
    refine wpAnyJ_take (i := 8) (v := ?_) rfl (by kernel_rfl) (by kernel_rfl) (by kernel_rfl) (by kernel_rfl) (fun _ _ _ h => h) (Or.inl ⟨by rfl, ?_⟩) (by assumption) ?_
    rotate_left
    focus ((intro w hSw; (try dsimp only at hSw); go_simp); try with_reducible rfl)
    (try simp only [Act.put, List.getElem_toArray, List.getElem_cons_zero, List.getElem_cons_succ, List.setIfInBounds_toArray, List.set_cons_zero, List.set_cons_succ])
    refine wpAnyJ_take0 (i := 9) (v := ?_) rfl (by kernel_rfl) (by kernel_rfl) (by kernel_rfl) (fun _ _ _ h => h) (Or.inl ⟨by rfl, ?_⟩) ?_
    rotate_left
    focus ((intro w hSw; clear hSw; go_simp); try with_reducible rfl)
    (try simp only [Act.put, List.getElem_toArray, List.getElem_cons_zero, List.getElem_cons_succ, List.setIfInBounds_toArray, List.set_cons_zero, List.set_cons_succ])
    refine wpAnyJ_take (i := 10) (v := ?_) rfl (by kernel_rfl) (by kernel_rfl) (by kernel_rfl) (by kernel_rfl) (fun _ _ _ h => h) (Or.inl ⟨by rfl, ?_⟩) (by assumption) ?_
    rotate_left
    focus ((intro w hSw; (try dsimp only at hSw); go_simp); try with_reducible rfl)
    (try simp only [Act.put, List.getElem_toArray, List.getElem_cons_zero, List.getElem_cons_succ, List.setIfInBounds_toArray, List.set_cons_zero, List.set_cons_succ])
    refine wpAnyJ_take0 (i := 11) (v := ?_) rfl (by kernel_rfl) (by kernel_rfl) (by kernel_rfl) (fun _ _ _ h => h) (Or.inl ⟨by rfl, ?_⟩) ?_
    rotate_left
    focus ((intro w hSw; clear hSw; go_simp); try with_reducible rfl)
    (try simp only [Act.put, List.getElem_toArray, List.getElem_cons_zero, List.getElem_cons_succ, List.setIfInBounds_toArray, List.set_cons_zero, List.set_cons_succ])
    refine wpAnyJ_ready (rs := [12]) (by kernel_rfl) (by simp) ?_
    refine AllReadyJ.cons rfl (fun KK hKK => ?_) AllReadyJ.nil
    go_simp
    refine hKK.out _ _ (fun h => absurd h (by decide)) ?_
    clear hKK KK hHeld
    (try simp only [Act.put, List.getElem_toArray, List.getElem_cons_zero, List.getElem_cons_succ, List.setIfInBounds_toArray, List.set_cons_zero, List.set_cons_succ])
    refine wpAnyJ_done (by kernel_rfl) ?_ _
    refine NoPanic.normal ?_
    have h3 := T2.n.set1 (fun k => by have := T2.one k; omega) t x'
    have T3 := Lib.hid (T2.upd_n h3.1 h3.2).drew
    clear T2 h3 kz2 kx2 fz2
    go_wp2_with fail
    rw [← HQ.out]
    refine ⟨rfl, _, results_none rfl _ _ _, rfl, ?_⟩
    rw [HA.out, HVA.out]
    exact ⟨_, _, _, _, _, _, _, _, _, T3.out⟩
end Go.Proofs.Ytjoopjmcnkiieaa

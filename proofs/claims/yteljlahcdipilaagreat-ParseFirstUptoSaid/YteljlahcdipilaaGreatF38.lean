/- Parts Q31, Q32 of this seat (pruned, scripts that are alike kept once as default arguments: q1, q2, ..). Conditions: each says its own. -/
import Derived.Test.YteljlahcdipilaaGreatF36
import Derived.Test.YteljlahcdipilaaGreatF37
namespace Go.Proofs.YteljlahcdipilaaGreat
open Go.RowKit Go.Shelf
set_option linter.unusedSimpArgs false
set_option linter.unusedVariables false
set_option maxRecDepth 100000
def setsO (f : Nat) (kd : Int) (l : List Tok) : O := bnd (run f (.setL kd []) l) fun z r => okP (.cl { bareC kd with sets := z.sets }) r
def sitK (g : Nat) (kd : Int) (l : List Sit) (K : V → List Tok → O) (r : List Tok) : O := if isT 5 [44] r = true then bnd (run g (.setL kd l) r.tail) K else K (.zl l) r
theorem Block.tailset {w : World} {b : Nat} {cur : List Value} {t : TypeId} (h : Block w b cur t) (o : Nat) (vs : List Value) (hl : o + vs.length = cur.length) : Block (w.setCells b o vs) b (cur.take o ++ vs) t := by
 have h2 := Block.setCells vs o w cur h
 rwa [setCs_all _ _ _ hl] at h2
theorem mk_si {S : Nat → Prop} {w : World} {cs : List Value} {t : Ex} {var key lab : ByteArray} (h : HX S w cs t) : HG (fun u => RSi u ([.string var, .string key, .string lab] ++ cs) ⟨var, key, lab, t⟩) S w := h.imp fun u h => ⟨cs, rfl, h⟩
structure SetAt (bp : Nat) (a : Option Addr) (cap : Nat) (L : List (Tok × Nat)) (w : World) (f b4 kb : Nat) (kd : Int) (K : V → List Tok → O) (x : Pr) (g k : Nat) (S : Nat → Prop) (lv : Value) (l : List Sit) (u : World) : Prop where
  st : St bp a cap L w k u
  lt : k < L.length
  ge : kb ≤ k
  ln : l.length ≤ k
  r4 : Block u w.heap.size [.int .i64 0, .slice none 0 0, .slice none 0 0, .int .i64 0, .string ⟨#[]⟩, .int .i64 0, .bool false, .int .i64 0, .string ⟨#[]⟩, .slice none 0 0, .slice none 0 0, .slice none 0 0, .slice none 0 0, .string ⟨#[]⟩, .slice none 0 0, .bool false, .slice none 0 0, .slice none 0 0, .slice none 0 0, .slice none 0 0, .slice none 0 0, .bool false] 71
  r5 : Block u b4 [.int .i64 kd, .slice none 0 0, .slice none 0 0, .int .i64 0, .string ⟨#[]⟩, .int .i64 0, .bool false, .int .i64 0, .string ⟨#[]⟩, .slice none 0 0, .slice none 0 0, .slice none 0 0, .slice none 0 0, .string ⟨#[]⟩, .slice none 0 0, .bool false, .slice none 0 0, .slice none 0 0, .slice none 0 0, lv, .slice none 0 0, .bool false] 71
  hb : w.heap.size < b4
  row : Row RSi 91 13 (b4 + 1) S u lv l
  le : g ≤ f
  rn : bnd (run g (.setL kd l) (rem L k)) K = some x
structure SitAt (bp : Nat) (a : Option Addr) (cap : Nat) (L : List (Tok × Nat)) (w : World) (b4 b6 k1 : Nat) (kd : Int) (K : V → List Tok → O) (x : Pr) (g k : Nat) (S Sx : Nat → Prop) (lv : Value) (l : List Sit) (cs : List Value) (si : Sit) (u : World) : Prop where
  st : St bp a cap L w k u
  lt : k < L.length
  ge : k1 ≤ k
  r4 : Block u w.heap.size [.int .i64 0, .slice none 0 0, .slice none 0 0, .int .i64 0, .string ⟨#[]⟩, .int .i64 0, .bool false, .int .i64 0, .string ⟨#[]⟩, .slice none 0 0, .slice none 0 0, .slice none 0 0, .slice none 0 0, .string ⟨#[]⟩, .slice none 0 0, .bool false, .slice none 0 0, .slice none 0 0, .slice none 0 0, .slice none 0 0, .slice none 0 0, .bool false] 71
  r5 : Block u b4 [.int .i64 kd, .slice none 0 0, .slice none 0 0, .int .i64 0, .string ⟨#[]⟩, .int .i64 0, .bool false, .int .i64 0, .string ⟨#[]⟩, .slice none 0 0, .slice none 0 0, .slice none 0 0, .slice none 0 0, .string ⟨#[]⟩, .slice none 0 0, .bool false, .slice none 0 0, .slice none 0 0, .slice none 0 0, lv, .slice none 0 0, .bool false] 71
  row : Row RSi 91 13 (b4 + 1) S u lv l
  r6 : Block u b6 cs 91
  hx : HG (fun u => RSi u cs si) Sx u
  lo : ∀ q, Sx q → b6 + 1 ≤ q
  rn : sitK g kd (l ++ [si]) K (rem L k) = some x
theorem si_cells {S : Nat → Prop} {w : World} {cs : List Value} {o : Sit} (h : HG (fun u => RSi u cs o) S w) : ∃ s1 s2 s3 op nm vk vb vi vs la ln lc ka kn kc na nn nc xa xn xc,
    cs = [.string s1, .string s2, .string s3, .int .i64 op, .string nm, .int .i64 vk, .bool vb, .int .i64 vi, .string vs, .slice la ln lc, .slice ka kn kc, .slice na nn nc, .slice xa xn xc] := by
 obtain ⟨xe, h0, h1⟩ := h.is
 obtain ⟨op, nm, vk, vb, vi, vs, la, ln, lc, ka, kn, kc, na, nn, nc, xa, xn, xc, rfl⟩ := isX_ten h1
 exact ⟨_, _, _, _, _, _, _, _, _, _, _, _, _, _, _, _, _, _, _, _, _, h0⟩
set_option maxHeartbeats 8000000 in
theorem sets_any {f : Nat} (kd : Int) (hkd : in64 kd) (bp : Nat) (a : Option Addr) (cap : Nat) (L : List (Tok × Nat)) (k : Nat) (w : World) (x : Pr) (h : Ps bp a cap L k w) (hT : Tk L) (hk : k < L.length)  (hr : setsO f kd (rem L k) = some x) :
    Calls Tryz.prog 102 #[.pointer (some ⟨bp, 0, none⟩), .int .i64 kd] w (PR (RtN RCl V.clause) bp L k w x) := by
 have HT := Lib.hid hT
 have HK0 := Lib.hid hk
 have X0 := Lib.hid hr
 have hbw := h.lt
 obtain ⟨u0, hy0⟩ : ∃ u, w.alloc (.cells #[.int .i64 0, .slice none 0 0, .slice none 0 0, .int .i64 0, .string ⟨#[]⟩, .int .i64 0, .bool false, .int .i64 0, .string ⟨#[]⟩, .slice none 0 0, .slice none 0 0, .slice none 0 0, .slice none 0 0, .string ⟨#[]⟩, .slice none 0 0, .bool false, .slice none 0 0, .slice none 0 0, .slice none 0 0, .slice none 0 0, .slice none 0 0, .bool false] 71) = u := ⟨_, rfl⟩
 have s0 : St bp a cap L w k u0 := by rw [← hy0]; exact (St.start h).alloc _
 have b0 : Block u0 w.heap.size [.int .i64 0, .slice none 0 0, .slice none 0 0, .int .i64 0, .string ⟨#[]⟩, .int .i64 0, .bool false, .int .i64 0, .string ⟨#[]⟩, .slice none 0 0, .slice none 0 0, .slice none 0 0, .slice none 0 0, .string ⟨#[]⟩, .slice none 0 0, .bool false, .slice none 0 0, .slice none 0 0, .slice none 0 0, .slice none 0 0, .slice none 0 0, .bool false] 71 := by rw [← hy0]; exact Block.new w _ _
 have B0r := Lib.hid b0
 clear b0
 have S0 := Lib.hid s0
 have HU := Lib.hid hy0
 clear s0 hy0 h hT hk hr
 have z0 := B0r.out.lt
 go_enter Tryz.func102, Tryz.ntmps102
 go_upto_region 1 with fail
 rw [HU.out]
 have hTh := block_there (Block.new u0 [.int .i64 0, .slice none 0 0, .slice none 0 0, .int .i64 0, .string ⟨#[]⟩, .int .i64 0, .bool false, .int .i64 0, .string ⟨#[]⟩, .slice none 0 0, .slice none 0 0, .slice none 0 0, .slice none 0 0, .string ⟨#[]⟩, .slice none 0 0, .bool false, .slice none 0 0, .slice none 0 0, .slice none 0 0, .slice none 0 0, .slice none 0 0, .bool false] 71) 0 22 (Nat.le_refl 22)
 go_wp2_with (first | (refine wpList_store_mid rfl 71 _ _ rfl u0.heap.size 0 #[.int .i64 kd, .slice none 0 0, .slice none 0 0, .int .i64 0, .string ⟨#[]⟩, .int .i64 0, .bool false, .int .i64 0, .string ⟨#[]⟩, .slice none 0 0, .slice none 0 0, .slice none 0 0, .slice none 0 0, .string ⟨#[]⟩, .slice none 0 0, .bool false, .slice none 0 0, .slice none 0 0, .slice none 0 0, .slice none 0 0, .slice none 0 0, .bool false] rfl rfl hTh (by kernel_rfl) (by simp [Value.oneCell']) ?_))
 go_frame
 obtain ⟨b4, hb4⟩ := nam u0.heap.size
 rw [hb4]
 obtain ⟨u1, hu1⟩ : ∃ u, (u0.alloc (.cells #[.int .i64 0, .slice none 0 0, .slice none 0 0, .int .i64 0, .string ⟨#[]⟩, .int .i64 0, .bool false, .int .i64 0, .string ⟨#[]⟩, .slice none 0 0, .slice none 0 0, .slice none 0 0, .slice none 0 0, .string ⟨#[]⟩, .slice none 0 0, .bool false, .slice none 0 0, .slice none 0 0, .slice none 0 0, .slice none 0 0, .slice none 0 0, .bool false] 71)).setCells b4 0 ((#[.int .i64 kd, .slice none 0 0, .slice none 0 0, .int .i64 0, .string ⟨#[]⟩, .int .i64 0, .bool false, .int .i64 0, .string ⟨#[]⟩, .slice none 0 0, .slice none 0 0, .slice none 0 0, .slice none 0 0, .string ⟨#[]⟩, .slice none 0 0, .bool false, .slice none 0 0, .slice none 0 0, .slice none 0 0, .slice none 0 0, .slice none 0 0, .bool false] : Array Value).toList) = u := ⟨_, rfl⟩
 rw [hu1]
 have zb4 : b4 < u1.heap.size ∧ w.heap.size < b4 ∧ u0.heap.size ≤ u1.heap.size ∧ u0.heap.size = b4 := by have := B0r.out.lt; rw [← hu1, setCells_sz, ← hb4]; simp <;> omega
 have S1 := Lib.hid (show St bp a cap L w k u1 from by rw [← hu1]; exact (S0.out.alloc _).sets (by have := S0.out.size; omega) 0 _)
 have B1r := Lib.hid (show Block u1 _ _ _ from by rw [← hu1]; exact (B0r.out.alloc _).of_heap (cells_other (by have := B0r.out.lt; omega) _ 0 _))
 have B1b := Lib.hid (show Block u1 b4 [.int .i64 kd, .slice none 0 0, .slice none 0 0, .int .i64 0, .string ⟨#[]⟩, .int .i64 0, .bool false, .int .i64 0, .string ⟨#[]⟩, .slice none 0 0, .slice none 0 0, .slice none 0 0, .slice none 0 0, .string ⟨#[]⟩, .slice none 0 0, .bool false, .slice none 0 0, .slice none 0 0, .slice none 0 0, .slice none 0 0, .slice none 0 0, .bool false] 71 from by rw [← hu1, ← hb4]; exact (Block.new u0 [.int .i64 0, .slice none 0 0, .slice none 0 0, .int .i64 0, .string ⟨#[]⟩, .int .i64 0, .bool false, .int .i64 0, .string ⟨#[]⟩, .slice none 0 0, .slice none 0 0, .slice none 0 0, .slice none 0 0, .string ⟨#[]⟩, .slice none 0 0, .bool false, .slice none 0 0, .slice none 0 0, .slice none 0 0, .slice none 0 0, .slice none 0 0, .bool false] 71).all [.int .i64 kd, .slice none 0 0, .slice none 0 0, .int .i64 0, .string ⟨#[]⟩, .int .i64 0, .bool false, .int .i64 0, .string ⟨#[]⟩, .slice none 0 0, .slice none 0 0, .slice none 0 0, .slice none 0 0, .string ⟨#[]⟩, .slice none 0 0, .bool false, .slice none 0 0, .slice none 0 0, .slice none 0 0, .slice none 0 0, .slice none 0 0, .bool false] rfl)
 clear hu1 hb4 hTh
 obtain ⟨K, hK⟩ : ∃ K : V → List Tok → O, (fun z r => okP (.cl { bareC kd with sets := z.sets }) r) = K := ⟨_, rfl⟩
 have XE := X0.out
 unfold setsO at XE
 rw [hK] at XE
 have HKD := Lib.hid hK
 clear hK
 go_loopg [] f (fun g wr => ∃ k0 S lv l, Hid (SetAt bp a cap L w f b4 k kd K x g k0 S lv l wr))
 case atStart => exact ⟨k, _, _, [], Lib.hid ⟨S1.out, HK0.out, Nat.le_refl _, by simp, B1r.out, B1b.out, by omega, Row.nil, Nat.le_refl _, XE⟩⟩
 case round =>
  clear XE X0 S1 B1r B1b HU
  obtain ⟨k0, S, lv, l, hP⟩ := hrel
  have hP := hP.out
  cases gk with
  | zero => exact absurd hP.rn (by intro h; cases h)
  | succ g =>
   have rn : bnd (Go.Proofs.YteljlahcdipilaaGreat.step (run g) (.setL kd l) (rem L k0)) K = some x := hP.rn
   simp only [Go.Proofs.YteljlahcdipilaaGreat.step, sigB, bnd_nameP, bnd_ite, bnd_okP, bnd_keyP, bnd_must, bnd_bnd, tail_rem] at rn
   have S20 := Lib.hid hP.st
   have zw20 := hP.st.size
   have R20a := Lib.hid hP.row
   have B20r := Lib.hid hP.r4
   have B20b := Lib.hid hP.r5
   have HK20 := Lib.hid hP.lt
   have hln := hP.ln
   have hge := hP.ge
   have hll := hP.lt
   have hL := hP.st.ln
   have hgf := hP.le
   have hb4 := hP.hb
   have zb5 := hP.r5.lt
   have RN := Lib.hid rn
   clear hP rn
   go_wp2_with (go_at_call 99; refine Stand.out ?_)
   refine Stand.mk ?_
   refine (name_go S20.out HT.out HK20.out RN.out).mono ?_
   rintro e u21 (⟨p9, r9, rfl, rfl, f9⟩ | ⟨n21, l21, x21, rfl, m21⟩)
   ·go_wp2_with fail
    exact ⟨rfl, f9⟩
   have X21 := Lib.hid x21
   have HK21 := Lib.hid l21
   clear x21 l21
   have S21 := Lib.hid (S20.out.call m21)
   have B21r := Lib.hid (m21.blk B20r.out (by omega))
   have B21b := Lib.hid (m21.blk B20b.out (by omega))
   have R21a := Lib.hid (R20a.out.mv m21 (by omega))
   have zw21 := S21.out.size
   have zz21 := Mv.size m21
   clear m21
   have hTh := block_there (Block.new u21 [.string ⟨#[]⟩, .string ⟨#[]⟩, .string ⟨#[]⟩, .int .i64 0, .string ⟨#[]⟩, .int .i64 0, .bool false, .int .i64 0, .string ⟨#[]⟩, .slice none 0 0, .slice none 0 0, .slice none 0 0, .slice none 0 0] 91) 0 13 (Nat.le_refl 13)
   go_upto_region 3 with (first | (refine wpList_store_mid rfl 91 _ _ rfl u21.heap.size 0 #[.string n21, .string ⟨#[]⟩, .string ⟨#[]⟩, .int .i64 0, .string ⟨#[]⟩, .int .i64 0, .bool false, .int .i64 0, .string ⟨#[]⟩, .slice none 0 0, .slice none 0 0, .slice none 0 0, .slice none 0 0] rfl rfl hTh (by kernel_rfl) (by simp [Value.oneCell']) ?_))
   go_frame
   obtain ⟨b6, hb6⟩ := nam u21.heap.size
   rw [hb6]
   obtain ⟨u22, hu22⟩ : ∃ u, (u21.alloc (.cells #[.string ⟨#[]⟩, .string ⟨#[]⟩, .string ⟨#[]⟩, .int .i64 0, .string ⟨#[]⟩, .int .i64 0, .bool false, .int .i64 0, .string ⟨#[]⟩, .slice none 0 0, .slice none 0 0, .slice none 0 0, .slice none 0 0] 91)).setCells b6 0 ((#[.string n21, .string ⟨#[]⟩, .string ⟨#[]⟩, .int .i64 0, .string ⟨#[]⟩, .int .i64 0, .bool false, .int .i64 0, .string ⟨#[]⟩, .slice none 0 0, .slice none 0 0, .slice none 0 0, .slice none 0 0] : Array Value).toList) = u := ⟨_, rfl⟩
   rw [hu22]
   have zb6 : b6 < u22.heap.size ∧ b4 < b6 ∧ u21.heap.size ≤ u22.heap.size ∧ u21.heap.size = b6 := by have := B21b.out.lt; rw [← hu22, setCells_sz, ← hb6]; simp <;> omega
   have S22 := Lib.hid (show St bp a cap L w (k0 + 1) u22 from by rw [← hu22]; exact (S21.out.alloc _).sets (by have := S21.out.size; omega) 0 _)
   have B22r := Lib.hid (show Block u22 _ _ _ from by rw [← hu22]; exact (B21r.out.alloc _).of_heap (cells_other (by have := B21r.out.lt; omega) _ 0 _))
   have B22b := Lib.hid (show Block u22 _ _ _ from by rw [← hu22]; exact (B21b.out.alloc _).of_heap (cells_other (by have := B21b.out.lt; omega) _ 0 _))
   have B22x := Lib.hid (show Block u22 b6 [.string n21, .string ⟨#[]⟩, .string ⟨#[]⟩, .int .i64 0, .string ⟨#[]⟩, .int .i64 0, .bool false, .int .i64 0, .string ⟨#[]⟩, .slice none 0 0, .slice none 0 0, .slice none 0 0, .slice none 0 0] 91 from by rw [← hu22, ← hb6]; exact (Block.new u21 [.string ⟨#[]⟩, .string ⟨#[]⟩, .string ⟨#[]⟩, .int .i64 0, .string ⟨#[]⟩, .int .i64 0, .bool false, .int .i64 0, .string ⟨#[]⟩, .slice none 0 0, .slice none 0 0, .slice none 0 0, .slice none 0 0] 91).all [.string n21, .string ⟨#[]⟩, .string ⟨#[]⟩, .int .i64 0, .string ⟨#[]⟩, .int .i64 0, .bool false, .int .i64 0, .string ⟨#[]⟩, .slice none 0 0, .slice none 0 0, .slice none 0 0, .slice none 0 0] rfl)
   have R22a := Lib.hid (show Row _ _ _ _ _ u22 _ _ from by rw [← hu22]; exact (R21a.out.alloc _).sets 0 _ (fun h => absurd (R21a.out.lt h).2 (by omega)))
   clear hu22 hb6 hTh
   obtain ⟨b3, hb3⟩ := nam (isT 5 [58] (rem L (k0 + 1)))
   obtain ⟨k2, hk2⟩ := nam ((if b3 = true then (k0 + 1) + 1 else (k0 + 1)))
   have Hb3 := Lib.hid hb3
   have Hk2 := Lib.hid hk2
   clear hb3 hk2
   go_wp2_with (go_at_call 103; refine Stand.out ?_)
   refine Stand.mk ?_
   refine (skip_b S22.out HT.out HK21.out (by decide) Hb3.out Hk2.out).mono ?_
   rintro e u23 ⟨rfl, l23, m23⟩
   have HK23 := Lib.hid l23
   have qk2 : (k0 + 1) ≤ k2 := by rw [← Hk2.out]; split <;> omega
   clear l23
   have S23 := Lib.hid (S22.out.call m23)
   have B23r := Lib.hid (m23.blk B22r.out (by omega))
   have B23b := Lib.hid (m23.blk B22b.out (by omega))
   have B23x := Lib.hid (m23.blk B22x.out (by omega))
   have R23a := Lib.hid (R22a.out.mv m23 (by omega))
   have zw23 := S23.out.size
   have zz23 := Mv.size m23
   clear m23
   have XE := X21.out
   simp only [bnd_ite, bnd_keyP, bnd_must, bnd_bnd, bnd_okP, tail_rem] at XE
   have X22 := Lib.hid XE
   clear XE
   go_upto_if 13 with fail
   go_cut [] (fun wx => ∃ (kq : Nat) (Sx : Nat → Prop) (cs : List Value) (si : Sit), Hid (SitAt bp a cap L w b4 b6 (k0 + 1) kd K x g kq S Sx lv l cs si wx))
   case first =>
    have hrow : ∀ q, (S q ∨ lv.ownBlock = some q) → q ≠ b6 := fun q hq => by have := (R21a.out.lt hq).2; omega
    have HROW := Lib.hid hrow
    clear hrow
    cases b3 with
    | true =>
     have e3 : k0 + 1 + 1 = k2 := by simpa using Hk2.out
     have XE := X22.out
     rw [if_pos Hb3.out, e3] at XE
     have XE := Lib.hid XE
     go_wp2_with (go_at_call 120; refine Stand.out ?_)
     refine Stand.mk ?_
     refine (key_go S23.out HT.out HK23.out XE.out).mono ?_
     rintro e u24 (⟨p9, r9, rfl, rfl, f9⟩ | ⟨n24, l24, x24, rfl, m24⟩)
     ·go_wp2_with fail
      exact ⟨rfl, f9⟩
     have X24 := Lib.hid x24
     have HK24 := Lib.hid l24
     clear x24 l24
     have S24 := Lib.hid (S23.out.call m24)
     have B24r := Lib.hid (m24.blk B23r.out (by omega))
     have B24b := Lib.hid (m24.blk B23b.out (by omega))
     have B24x := Lib.hid (m24.blk B23x.out (by omega))
     have R24a := Lib.hid (R23a.out.mv m24 (by omega))
     have zw24 := S24.out.size
     have zz24 := Mv.size m24
     clear m24
     have c2 := B24x.out.cell (i := 2) rfl
     have d2 := B24x.out.free 2
     go_wp2_with fail
     go_meet
     exact ⟨k2 + 1, fun _ => False, _, ⟨n21, ⟨#[]⟩, n24, emptyX⟩, Lib.hid ⟨S24.out.set (by omega) 2 _, HK24.out, by omega, B24r.out.of_heap (Below.heap_setCell _ ⟨b6, 2, none⟩ _ _ (by show w.heap.size ≠ b6; omega)), B24b.out.of_heap (Below.heap_setCell _ ⟨b6, 2, none⟩ _ _ (by show b4 ≠ b6; omega)), R24a.out.same (fun b hb => Below.heap_setCell _ ⟨b6, 2, none⟩ _ _ (HROW.out b hb)), B24x.out.set 2 _, mk_si (emptyX_hx _), fun _ h => h.elim, (bnd_ite _ _ _ _).symm.trans X24.out⟩⟩
    | false =>
     have e3 : k0 + 1 = k2 := by simpa using Hk2.out
     have XE := X22.out
     rw [if_neg (by rw [Hb3.out]; simp), e3] at XE
     have XE := Lib.hid XE
     go_wp2_with (go_at_call 118; refine Stand.out ?_)
     refine Stand.mk ?_
     refine (mustSign_go S23.out HT.out HK23.out XE.out).mono ?_
     rintro e u24 (⟨p9, r9, rfl, rfl, f9⟩ | ⟨l24, x24, rfl, m24⟩)
     ·go_wp2_with fail
      exact ⟨rfl, f9⟩
     have X24 := Lib.hid x24
     have HK24 := Lib.hid l24
     clear x24 l24
     have S24 := Lib.hid (S23.out.call m24)
     have B24r := Lib.hid (m24.blk B23r.out (by omega))
     have B24b := Lib.hid (m24.blk B23b.out (by omega))
     have B24x := Lib.hid (m24.blk B23x.out (by omega))
     have R24a := Lib.hid (R23a.out.mv m24 (by omega))
     have zw24 := S24.out.size
     have zz24 := Mv.size m24
     clear m24
     go_wp2_with (go_at_call 120; refine Stand.out ?_)
     refine Stand.mk ?_
     refine (key_go S24.out HT.out HK24.out X24.out).mono ?_
     rintro e u25 (⟨p9, r9, rfl, rfl, f9⟩ | ⟨n25, l25, x25, rfl, m25⟩)
     ·go_wp2_with fail
      exact ⟨rfl, f9⟩
     have X25 := Lib.hid x25
     have HK25 := Lib.hid l25
     clear x25 l25
     have S25 := Lib.hid (S24.out.call m25)
     have B25r := Lib.hid (m25.blk B24r.out (by omega))
     have B25b := Lib.hid (m25.blk B24b.out (by omega))
     have B25x := Lib.hid (m25.blk B24x.out (by omega))
     have R25a := Lib.hid (R24a.out.mv m25 (by omega))
     have zw25 := S25.out.size
     have zz25 := Mv.size m25
     clear m25
     have c1 := B25x.out.cell (i := 1) rfl
     have d1 := B25x.out.free 1
     go_upto_region 7 with fail
     clear c1 d1
     obtain ⟨u26, hu⟩ : ∃ u, (u25.setCell ⟨b6, 1, none⟩ (.string n25)) = u := ⟨_, rfl⟩
     rw [hu]
     have S26 := Lib.hid (show St bp a cap L w ((k2 + 1) + 1) u26 from by rw [← hu]; exact (S25.out.set (by omega) 1 _))
     have zz26 : u26.heap.size = u25.heap.size := by rw [← hu]; simp [World.size_setCell]
     have hk26 : ∀ q, q ≠ b6 → u26.heap[q]? = u25.heap[q]? := fun q hq => by rw [← hu, Below.heap_setCell _ ⟨b6, 1, none⟩ _ q hq]
     have B26r := Lib.hid (B25r.out.of_heap (hk26 _ (by omega)))
     have B26b := Lib.hid (B25b.out.of_heap (hk26 _ (by omega)))
     have B26x := Lib.hid (show Block u26 b6 [.string n21, .string n25, .string ⟨#[]⟩, .int .i64 0, .string ⟨#[]⟩, .int .i64 0, .bool false, .int .i64 0, .string ⟨#[]⟩, .slice none 0 0, .slice none 0 0, .slice none 0 0, .slice none 0 0] 91 from by rw [← hu]; exact (B25x.out.set 1 _))
     have R26a := Lib.hid (R25a.out.same (w1 := u26) (fun b hb => hk26 b (HROW.out _ hb)))
     clear hu hk26
     by_cases hk6 : kd = 6
     ·subst hk6
      have X61 := (if_pos (rfl : (6 : Int) = 6)).symm.trans X25.out
      have X62 := Lib.hid X61
      clear X61
      go_wp2_with (go_at_call 118; refine Stand.out ?_)
      refine Stand.mk ?_
      refine (mustSign_go S26.out HT.out HK25.out X62.out).mono ?_
      rintro e u27 (⟨p9, r9, rfl, rfl, f9⟩ | ⟨l27, x27, rfl, m27⟩)
      ·go_wp2_with fail
       exact ⟨rfl, f9⟩
      have X27 := Lib.hid x27
      have HK27 := Lib.hid l27
      clear x27 l27
      have S27 := Lib.hid (S26.out.call m27)
      have B27r := Lib.hid (m27.blk B26r.out (by omega))
      have B27b := Lib.hid (m27.blk B26b.out (by omega))
      have B27x := Lib.hid (m27.blk B26x.out (by omega))
      have R27a := Lib.hid (R26a.out.mv m27 (by omega))
      have zw27 := S27.out.size
      have zz27 := Mv.size m27
      clear m27
      go_wp2_with (go_at_call 97; refine Stand.out ?_)
      refine Stand.mk ?_
      refine ((expr_s g 1 (by decide)).go2 S27.out HT.out HK27.out X27.out).mono ?_
      rintro e u28 (⟨p9, r9, rfl, rfl, f9⟩ | ⟨v28, k28, val28, q28, l28, x28, rfl, ⟨T28, ds28, rfl, hT28, hX28⟩, m28⟩)
      ·go_wp2_with fail
       exact ⟨rfl, f9⟩
      have X28 := Lib.hid x28
      have HK28 := Lib.hid l28
      clear x28 l28
      have S28 := Lib.hid (S27.out.call m28)
      have B28r := Lib.hid (m28.blk B27r.out (by omega))
      have B28b := Lib.hid (m28.blk B27b.out (by omega))
      have B28x := Lib.hid (m28.blk B27x.out (by omega))
      have R28a := Lib.hid (R27a.out.mv m28 (by omega))
      have zw28 := S28.out.size
      have zz28 := Mv.size m28
      clear m28
      obtain ⟨op28, nm28, vk28, vb28, vi28, vs28, la28, ln28, lc28, ka28, kn28, kc28, na28, nn28, nc28, xa28, xn28, xc28, -, -, rfl⟩ := hX28.ten
      have V28p := Lib.hid hX28
      clear hX28
      have Np := Lib.hid hT28
      have hTh := block_there B28x.out 3 10 (Nat.le_refl 13)
      go_wp2_with (refine wpList_store_mid rfl 66 _ _ rfl b6 3 #[.int .i64 op28, .string nm28, .int .i64 vk28, .bool vb28, .int .i64 vi28, .string vs28, .slice la28 ln28 lc28, .slice ka28 kn28 kc28, .slice na28 nn28 nc28, .slice xa28 xn28 xc28] rfl rfl hTh (by kernel_rfl) (by simp [Value.oneCell']) ?_)
      go_meet
      exact ⟨k28, T28, _, ⟨n21, n25, ⟨#[]⟩, v28.ex⟩, Lib.hid ⟨S28.out.sets (by omega) 3 _, HK28.out, by omega, B28r.out.of_heap (cells_other (by omega) _ 3 _), B28b.out.of_heap (cells_other (by omega) _ 3 _), R28a.out.same (fun b hb => cells_other (HROW.out b hb) _ 3 _), B28x.out.tailset 3 [.int .i64 op28, .string nm28, .int .i64 vk28, .bool vb28, .int .i64 vi28, .string vs28, .slice la28 ln28 lc28, .slice ka28 kn28 kc28, .slice na28 nn28 nc28, .slice xa28 xn28 xc28] rfl, (mk_si (V28p.out.sets 3 _ (fun h => absurd (hT28 _ h) (by omega)))), fun q h => by have := hT28 q h; omega, (bnd_ite _ _ _ _).symm.trans X28.out⟩⟩
     ·have hk6b : (kd == 6) = false := by simpa using hk6
      have XE := (if_neg hk6).symm.trans X25.out
      have XE := Lib.hid XE
      go_wp2_with fail
      go_meet
      exact ⟨((k2 + 1) + 1), fun _ => False, _, ⟨n21, n25, ⟨#[]⟩, emptyX⟩, Lib.hid ⟨S26.out, HK25.out, by omega, B26r.out, B26b.out, R26a.out, B26x.out, mk_si (emptyX_hx _), fun _ h => h.elim, (bnd_ite _ _ _ _).symm.trans XE.out⟩⟩
   case rest =>
    obtain ⟨kq, Sx, cs, si, hc⟩ := hcut
    have hc := hc.out
    obtain ⟨saq, sbq, scq, opq, nmq, vkq, vbq, viq, vsq, laq, lnq, lcq, kaq, knq, kcq, naq, nnq, ncq, xaq, xnq, xcq, rfl⟩ := si_cells hc.hx
    obtain ⟨u24, hu⟩ := nam wc
    rw [hu] at hc ⊢
    clear hu
    have S24 := Lib.hid hc.st
    have HK24 := Lib.hid hc.lt
    have qq := hc.ge
    have B24r := Lib.hid hc.r4
    have B24b := Lib.hid hc.r5
    have B24x := Lib.hid hc.r6
    have R24a := Lib.hid hc.row
    have V24p := Lib.hid hc.hx
    have hlo := hc.lo
    have z24 := hc.r6.lt
    have zw24 := hc.st.size
    have XE := hc.rn
    unfold sitK at XE
    have XE := Lib.hid XE
    have hll2 := hc.lt
    clear hc
    have c19 := B24b.out.cell (i := 19) rfl
    have hRg := B24x.out.rng
    go_wp2_with (first | (refine wpList_load_mid rfl 91 _ rfl b6 0 rfl [.string saq, .string sbq, .string scq, .int .i64 opq, .string nmq, .int .i64 vkq, .bool vbq, .int .i64 viq, .string vsq, .slice laq lnq lcq, .slice kaq knq kcq, .slice naq nnq ncq, .slice xaq xnq xcq] _ hRg Tryz.underlying91 rfl (by kernel_rfl) ?_) | (at_builtin; refine wpList_append_row (R := RSi) rfl _ _ 69 rfl Tryz.underlying69 Tryz.infoSi rfl (by decide) (by decide) R24a.out V24p.out rfl (fun b hb => ⟨by have := hlo b hb; omega, fun e => absurd (hlo b hb) (by have := (R21a.out.lt (.inr e)).2; omega)⟩) rfl rfl (by simp [Value.oneCell']) (by omega) (by omega) ?_))
    intro lv2 u25 hR hg ho hp
    obtain ⟨ga, gn, gc, rfl⟩ := hR.slice
    have S25 := Lib.hid ((S24.out.alloc _).grown hg (fun q e => by have := ho q e; omega))
    have R25a := Lib.hid hR
    have zz25 : u24.heap.size + 1 ≤ u25.heap.size := by have := hg.size; simpa using this
    have B25r := Lib.hid (B24r.out.of_heap (w' := u25) ((hg.block _ (by have := B24r.out.lt; simp; omega) (fun e => by have := ho _ e.symm; omega)).trans (Below.heap_alloc _ _ _ B24r.out.lt)))
    have B25b := Lib.hid (B24b.out.of_heap (w' := u25) ((hg.block _ (by have := B24b.out.lt; simp; omega) (fun e => by have := ho _ e.symm; omega)).trans (Below.heap_alloc _ _ _ B24b.out.lt)))
    clear hR hg ho hp hRg c19
    have c19 := B25b.out.cell (i := 19) rfl
    have d19 := B25b.out.free 19
    go_upto_region 11 with fail
    clear c19 d19
    obtain ⟨u26, hu⟩ : ∃ u, (u25.setCell ⟨b4, 19, none⟩ (.slice ga gn gc)) = u := ⟨_, rfl⟩
    rw [hu]
    have S26 := Lib.hid (show St bp a cap L w kq u26 from by rw [← hu]; exact (S25.out.set (by omega) 19 _))
    have zz26 : u26.heap.size = u25.heap.size := by rw [← hu]; simp [World.size_setCell]
    have hk26 : ∀ q, q ≠ b4 → u26.heap[q]? = u25.heap[q]? := fun q hq => by rw [← hu, Below.heap_setCell _ ⟨b4, 19, none⟩ _ q hq]
    have B26r := Lib.hid (B25r.out.of_heap (hk26 _ (by omega)))
    have B26b := Lib.hid (show Block u26 b4 [.int .i64 kd, .slice none 0 0, .slice none 0 0, .int .i64 0, .string ⟨#[]⟩, .int .i64 0, .bool false, .int .i64 0, .string ⟨#[]⟩, .slice none 0 0, .slice none 0 0, .slice none 0 0, .slice none 0 0, .string ⟨#[]⟩, .slice none 0 0, .bool false, .slice none 0 0, .slice none 0 0, .slice none 0 0, .slice ga gn gc, .slice none 0 0, .bool false] 71 from by rw [← hu]; exact (B25b.out.set 19 _))
    have R26a := Lib.hid (R25a.out.same (w1 := u26) (fun b hb => hk26 b (fun e => by have := (R25a.out.lt hb).1; omega)))
    clear hu hk26
    cases h44 : isT 5 [44] (rem L kq) with
    | true =>
     have RY := XE.out
     rw [if_pos h44, tail_rem] at RY
     have RZ := Lib.hid RY
     clear RY
     go_wp2_with (go_at_call 103; refine Stand.out ?_)
     refine Stand.mk ?_
     refine (skip_t S26.out HK24.out h44).mono ?_
     rintro e u27 ⟨rfl, m27⟩
     have S27 := Lib.hid (S26.out.call m27)
     have B27r := Lib.hid (m27.blk B26r.out (by omega))
     have B27b := Lib.hid (m27.blk B26b.out (by omega))
     have R27a := Lib.hid (R26a.out.mv m27 (by omega))
     have zw27 := S27.out.size
     have zz27 := Mv.size m27
     clear m27
     have HK27 := Lib.hid (HT.out.next HK24.out h44 (by decide))
     go_wp2_with fail
     go_roundg g
     case measure => omega
     case rel => exact ⟨kq + 1, _, _, l ++ [si], Lib.hid ⟨S27.out, HK27.out, by omega, by simp; omega, B27r.out, B27b.out, hb4, R27a.out, by omega, RZ.out⟩⟩
    | false =>
     have RY := XE.out
     rw [if_neg (by rw [h44]; simp), ← HKD.out] at RY
     have RZ := Lib.hid RY
     clear RY
     go_wp2_with (go_at_call 103; refine Stand.out ?_)
     refine Stand.mk ?_
     refine (skip_f S26.out HK24.out h44).mono ?_
     rintro e u27 ⟨rfl, m27⟩
     have S27 := Lib.hid (S26.out.call m27)
     have B27r := Lib.hid (m27.blk B26r.out (by omega))
     have B27b := Lib.hid (m27.blk B26b.out (by omega))
     have R27a := Lib.hid (R26a.out.mv m27 (by omega))
     have zw27 := S27.out.size
     have zz27 := Mv.size m27
     clear m27
     obtain ⟨Sv, va, vc, e9, hsl, hSv, hRv⟩ := R27a.out.fin
     injection e9 with e91 e92 e93
     subst e91 e93
     subst e92
     have V27v := Lib.hid hRv
     have HSV := Lib.hid hsl
     have hSV : ∀ q, Sv q → w.heap.size + 1 ≤ q := fun q hq => by have := (R27a.out.lt (hSv q hq)).1; omega
     clear hRv hsl
     obtain rfl := Option.some.inj RZ.out
     have hRg := B27b.out.rng
     have hTh := block_there B27r.out 0 22 (Nat.le_refl 22)
     go_wp2_with (first | (refine wpList_load_mid rfl 71 _ rfl b4 0 rfl [.int .i64 kd, .slice none 0 0, .slice none 0 0, .int .i64 0, .string ⟨#[]⟩, .int .i64 0, .bool false, .int .i64 0, .string ⟨#[]⟩, .slice none 0 0, .slice none 0 0, .slice none 0 0, .slice none 0 0, .string ⟨#[]⟩, .slice none 0 0, .bool false, .slice none 0 0, .slice none 0 0, .slice none 0 0, .slice ga (l ++ [si]).length gc, .slice none 0 0, .bool false] _ hRg Tryz.underlying71 rfl (by kernel_rfl) ?_) | (refine wpList_store_mid rfl 71 _ _ rfl w.heap.size 0 #[.int .i64 kd, .slice none 0 0, .slice none 0 0, .int .i64 0, .string ⟨#[]⟩, .int .i64 0, .bool false, .int .i64 0, .string ⟨#[]⟩, .slice none 0 0, .slice none 0 0, .slice none 0 0, .slice none 0 0, .string ⟨#[]⟩, .slice none 0 0, .bool false, .slice none 0 0, .slice none 0 0, .slice none 0 0, .slice ga (l ++ [si]).length gc, .slice none 0 0, .bool false] rfl rfl hTh (by kernel_rfl) (by simp [Value.oneCell']) ?_))
     have B99 := B27r.out.all [.int .i64 kd, .slice none 0 0, .slice none 0 0, .int .i64 0, .string ⟨#[]⟩, .int .i64 0, .bool false, .int .i64 0, .string ⟨#[]⟩, .slice none 0 0, .slice none 0 0, .slice none 0 0, .slice none 0 0, .string ⟨#[]⟩, .slice none 0 0, .bool false, .slice none 0 0, .slice none 0 0, .slice none 0 0, .slice ga (l ++ [si]).length gc, .slice none 0 0, .bool false] rfl
     refine bodyPost_ret (results_cell_row (by rfl) _ _ w.heap.size 71 _ (0, 0) _ (by rfl) B99 Tryz.underlying71 rfl (by kernel_rfl)) rfl ?_
     have VC := mk_cl (w := u27) (c := { bareC kd with sets := l ++ [si] }) hkd (nRow _) nil_sl (nRowX _) nil_sl (emptyX_hx _) (nRow _) nil_sl (nRow _) nil_sl (nRowX _) nil_sl (nRowX _) nil_sl V27v.out HSV.out (nRowK _) nil_sl
     have hlo : ∀ q, ((((((((False ∨ False) ∨ False) ∨ False) ∨ False) ∨ False) ∨ False) ∨ Sv q) ∨ False) → w.heap.size + 1 ≤ q := fun q h => by
      simp only [or_false, false_or] at h
      exact hSV q h
     exact ⟨kq, _, by omega, HK24.out, rfl, rfl, RtN.mk (VC.sets 0 _ (fun h => absurd (hlo _ h) (by omega))) (rfl) (fun b h => by have := hlo b h; omega), (S27.out.sets (Nat.le_refl _) 0 _).mv⟩
theorem sets_s (f : Nat) (kd : Int) (hk : in64 kd) : SaidO 102 [.int .i64 kd] (setsO f kd) (RtN RCl V.clause) := fun bp a cap L k w x h hT hk' hr => sets_any kd hk bp a cap L k w x h hT hk' hr
set_option maxHeartbeats 8000000 in
theorem set_any {f : Nat} (bp : Nat) (a : Option Addr) (cap : Nat) (L : List (Tok × Nat)) (k : Nat) (w : World) (x : Pr) (h : Ps bp a cap L k w) (hT : Tk L) (hk : k < L.length)  (hr : run (f + 1) (.clause wSET) (rem L k) = some x) :
    Calls Tryz.prog 83 #[.pointer (some ⟨bp, 0, none⟩)] w (PR (RtN RCl V.clause) bp L k w x) := by
 have z161637b := trivial
 exact Sq161637
set_option maxHeartbeats 8000000 in
theorem remove_any {f : Nat} (bp : Nat) (a : Option Addr) (cap : Nat) (L : List (Tok × Nat)) (k : Nat) (w : World) (x : Pr) (h : Ps bp a cap L k w) (hT : Tk L) (hk : k < L.length)  (hr : run (f + 1) (.clause wREMOVE) (rem L k) = some x) :
    Calls Tryz.prog 84 #[.pointer (some ⟨bp, 0, none⟩)] w (PR (RtN RCl V.clause) bp L k w x) := by
 have z161637a := trivial
 exact Sq161637
end Go.Proofs.YteljlahcdipilaaGreat
namespace Go.Proofs.YteljlahcdipilaaGreat
open Go.RowKit Go.Shelf Go.ChangeMaps Go.Maps
set_option linter.unusedSimpArgs false
set_option linter.unusedVariables false
set_option maxRecDepth 100000
theorem Tryz.mapSF : Tryz.prog.underlying 117 = some (.map 9 120) := by kernel_rfl
def wayG0 : ByteArray → Option Value := fun _ => none
def wayG1 : ByteArray → Option Value := fun y => if y = ⟨#[77, 65, 84, 67, 72]⟩ then some (.func (.func 78) #[] #[]) else wayG0 y
def wayG2 : ByteArray → Option Value := fun y => if y = ⟨#[85, 78, 87, 73, 78, 68]⟩ then some (.func (.func 79) #[] #[]) else wayG1 y
def wayG3 : ByteArray → Option Value := fun y => if y = ⟨#[87, 73, 84, 72]⟩ then some (.func (.func 80) #[] #[]) else wayG2 y
def wayG4 : ByteArray → Option Value := fun y => if y = ⟨#[67, 82, 69, 65, 84, 69]⟩ then some (.func (.func 81) #[] #[]) else wayG3 y
def wayG5 : ByteArray → Option Value := fun y => if y = ⟨#[77, 69, 82, 71, 69]⟩ then some (.func (.func 82) #[] #[]) else wayG4 y
def wayG6 : ByteArray → Option Value := fun y => if y = ⟨#[83, 69, 84]⟩ then some (.func (.func 83) #[] #[]) else wayG5 y
def wayG7 : ByteArray → Option Value := fun y => if y = ⟨#[82, 69, 77, 79, 86, 69]⟩ then some (.func (.func 84) #[] #[]) else wayG6 y
def wayG8 : ByteArray → Option Value := fun y => if y = ⟨#[68, 69, 76, 69, 84, 69]⟩ then some (.func (.func 85) #[] #[]) else wayG7 y
def wayG9 : ByteArray → Option Value := fun y => if y = ⟨#[68, 69, 84, 65, 67, 72]⟩ then some (.func (.func 86) #[] #[]) else wayG8 y
def wayG10 : ByteArray → Option Value := fun y => if y = ⟨#[82, 69, 84, 85, 82, 78]⟩ then some (.func (.func 87) #[] #[]) else wayG9 y
set_option maxHeartbeats 8000000 in
theorem clauses_any (w : World) : Calls Tryz.prog 46 #[] w fun e w' => ∃ mb, e = .returned (.map (some mb)) ∧ w.heap.size ≤ mb ∧ MapIs w' KS mb 10 wayG10 ∧ Below w.heap.size w w' := by
 have hmm := @run_makeMap Tryz.prog
 obtain ⟨W0, hW0⟩ := nam (w.alloc (.map #[] 0))
 obtain ⟨mb, hmb⟩ := nam w.heap.size
 have m0 : MapIs W0 KS mb 0 wayG0 := by rw [← hW0, ← hmb]; exact MapIs.made w KS
 have hb0 : Below w.heap.size w W0 := by rw [← hW0]; exact (Below.refl _ _).alloc (Nat.le_refl _) _
 obtain ⟨W1, r1, m1, g1, z1⟩ := m0.update Tryz.mapSF (by unfold maxLen; omega) (x := ⟨#[77, 65, 84, 67, 72]⟩) (show ByteArray.size _ ≤ maxLen by unfold maxLen; decide) (.func (.func 78) #[] #[])
 replace m1 : MapIs W1 KS mb 1 wayG1 := m1
 replace r1 : (Instr.mapUpdate 117 (.map (some mb)) (.string ⟨#[77, 65, 84, 67, 72]⟩) (.func (.func 78) #[] #[])).run Tryz.prog W0 = .ok () W1 := r1
 have hb1 := hb0.grown g1 (by have := hb0.size; omega) (fun k hk => by rw [← Option.some.inj hk, ← hmb]; exact Nat.le_refl _)
 obtain ⟨W2, r2, m2, g2, z2⟩ := m1.update Tryz.mapSF (by unfold maxLen; omega) (x := ⟨#[85, 78, 87, 73, 78, 68]⟩) (show ByteArray.size _ ≤ maxLen by unfold maxLen; decide) (.func (.func 79) #[] #[])
 replace m2 : MapIs W2 KS mb 2 wayG2 := m2
 replace r2 : (Instr.mapUpdate 117 (.map (some mb)) (.string ⟨#[85, 78, 87, 73, 78, 68]⟩) (.func (.func 79) #[] #[])).run Tryz.prog W1 = .ok () W2 := r2
 have hb2 := hb1.grown g2 (by have := hb1.size; omega) (fun k hk => by rw [← Option.some.inj hk, ← hmb]; exact Nat.le_refl _)
 obtain ⟨W3, r3, m3, g3, z3⟩ := m2.update Tryz.mapSF (by unfold maxLen; omega) (x := ⟨#[87, 73, 84, 72]⟩) (show ByteArray.size _ ≤ maxLen by unfold maxLen; decide) (.func (.func 80) #[] #[])
 replace m3 : MapIs W3 KS mb 3 wayG3 := m3
 replace r3 : (Instr.mapUpdate 117 (.map (some mb)) (.string ⟨#[87, 73, 84, 72]⟩) (.func (.func 80) #[] #[])).run Tryz.prog W2 = .ok () W3 := r3
 have hb3 := hb2.grown g3 (by have := hb2.size; omega) (fun k hk => by rw [← Option.some.inj hk, ← hmb]; exact Nat.le_refl _)
 obtain ⟨W4, r4, m4, g4, z4⟩ := m3.update Tryz.mapSF (by unfold maxLen; omega) (x := ⟨#[67, 82, 69, 65, 84, 69]⟩) (show ByteArray.size _ ≤ maxLen by unfold maxLen; decide) (.func (.func 81) #[] #[])
 replace m4 : MapIs W4 KS mb 4 wayG4 := m4
 replace r4 : (Instr.mapUpdate 117 (.map (some mb)) (.string ⟨#[67, 82, 69, 65, 84, 69]⟩) (.func (.func 81) #[] #[])).run Tryz.prog W3 = .ok () W4 := r4
 have hb4 := hb3.grown g4 (by have := hb3.size; omega) (fun k hk => by rw [← Option.some.inj hk, ← hmb]; exact Nat.le_refl _)
 obtain ⟨W5, r5, m5, g5, z5⟩ := m4.update Tryz.mapSF (by unfold maxLen; omega) (x := ⟨#[77, 69, 82, 71, 69]⟩) (show ByteArray.size _ ≤ maxLen by unfold maxLen; decide) (.func (.func 82) #[] #[])
 replace m5 : MapIs W5 KS mb 5 wayG5 := m5
 replace r5 : (Instr.mapUpdate 117 (.map (some mb)) (.string ⟨#[77, 69, 82, 71, 69]⟩) (.func (.func 82) #[] #[])).run Tryz.prog W4 = .ok () W5 := r5
 have hb5 := hb4.grown g5 (by have := hb4.size; omega) (fun k hk => by rw [← Option.some.inj hk, ← hmb]; exact Nat.le_refl _)
 obtain ⟨W6, r6, m6, g6, z6⟩ := m5.update Tryz.mapSF (by unfold maxLen; omega) (x := ⟨#[83, 69, 84]⟩) (show ByteArray.size _ ≤ maxLen by unfold maxLen; decide) (.func (.func 83) #[] #[])
 replace m6 : MapIs W6 KS mb 6 wayG6 := m6
 replace r6 : (Instr.mapUpdate 117 (.map (some mb)) (.string ⟨#[83, 69, 84]⟩) (.func (.func 83) #[] #[])).run Tryz.prog W5 = .ok () W6 := r6
 have hb6 := hb5.grown g6 (by have := hb5.size; omega) (fun k hk => by rw [← Option.some.inj hk, ← hmb]; exact Nat.le_refl _)
 obtain ⟨W7, r7, m7, g7, z7⟩ := m6.update Tryz.mapSF (by unfold maxLen; omega) (x := ⟨#[82, 69, 77, 79, 86, 69]⟩) (show ByteArray.size _ ≤ maxLen by unfold maxLen; decide) (.func (.func 84) #[] #[])
 replace m7 : MapIs W7 KS mb 7 wayG7 := m7
 replace r7 : (Instr.mapUpdate 117 (.map (some mb)) (.string ⟨#[82, 69, 77, 79, 86, 69]⟩) (.func (.func 84) #[] #[])).run Tryz.prog W6 = .ok () W7 := r7
 have hb7 := hb6.grown g7 (by have := hb6.size; omega) (fun k hk => by rw [← Option.some.inj hk, ← hmb]; exact Nat.le_refl _)
 obtain ⟨W8, r8, m8, g8, z8⟩ := m7.update Tryz.mapSF (by unfold maxLen; omega) (x := ⟨#[68, 69, 76, 69, 84, 69]⟩) (show ByteArray.size _ ≤ maxLen by unfold maxLen; decide) (.func (.func 85) #[] #[])
 replace m8 : MapIs W8 KS mb 8 wayG8 := m8
 replace r8 : (Instr.mapUpdate 117 (.map (some mb)) (.string ⟨#[68, 69, 76, 69, 84, 69]⟩) (.func (.func 85) #[] #[])).run Tryz.prog W7 = .ok () W8 := r8
 have hb8 := hb7.grown g8 (by have := hb7.size; omega) (fun k hk => by rw [← Option.some.inj hk, ← hmb]; exact Nat.le_refl _)
 obtain ⟨W9, r9, m9, g9, z9⟩ := m8.update Tryz.mapSF (by unfold maxLen; omega) (x := ⟨#[68, 69, 84, 65, 67, 72]⟩) (show ByteArray.size _ ≤ maxLen by unfold maxLen; decide) (.func (.func 86) #[] #[])
 replace m9 : MapIs W9 KS mb 9 wayG9 := m9
 replace r9 : (Instr.mapUpdate 117 (.map (some mb)) (.string ⟨#[68, 69, 84, 65, 67, 72]⟩) (.func (.func 86) #[] #[])).run Tryz.prog W8 = .ok () W9 := r9
 have hb9 := hb8.grown g9 (by have := hb8.size; omega) (fun k hk => by rw [← Option.some.inj hk, ← hmb]; exact Nat.le_refl _)
 obtain ⟨W10, r10, m10, g10, z10⟩ := m9.update Tryz.mapSF (by unfold maxLen; omega) (x := ⟨#[82, 69, 84, 85, 82, 78]⟩) (show ByteArray.size _ ≤ maxLen by unfold maxLen; decide) (.func (.func 87) #[] #[])
 replace m10 : MapIs W10 KS mb 10 wayG10 := m10
 replace r10 : (Instr.mapUpdate 117 (.map (some mb)) (.string ⟨#[82, 69, 84, 85, 82, 78]⟩) (.func (.func 87) #[] #[])).run Tryz.prog W9 = .ok () W10 := r10
 have hb10 := hb9.grown g10 (by have := hb9.size; omega) (fun k hk => by rw [← Option.some.inj hk, ← hmb]; exact Nat.le_refl _)
 rw [← hW0] at r1
 have HB := Lib.hid hb10
 have HM := Lib.hid m10
 have HL : Hid (w.heap.size ≤ mb) := Lib.hid (by omega)
 clear m0 hW0 m1 g1 z1 hb1 m2 g2 z2 hb2 m3 g3 z3 hb3 m4 g4 z4 hb4 m5 g5 z5 hb5 m6 g6 z6 hb6 m7 g7 z7 hb7 m8 g8 z8 hb8 m9 g9 z9 hb9 m10 g10 z10 hb10 hb0
 go_enter Tryz.func46, Tryz.ntmps46
 go_wp2_with fail
 go_ret
 exact ⟨mb, rfl, HL.out, HM.out, HB.out⟩
end Go.Proofs.YteljlahcdipilaaGreat

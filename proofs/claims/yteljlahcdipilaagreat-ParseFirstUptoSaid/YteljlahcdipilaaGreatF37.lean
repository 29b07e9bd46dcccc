/- Parts Q30 of this seat (pruned, scripts that are alike kept once as default arguments: q1, q2, ..). Conditions: each says its own. -/
import Derived.Test.YteljlahcdipilaaGreatF34
namespace Go.Proofs.YteljlahcdipilaaGreat
open Go.RowKit Go.Shelf
set_option linter.unusedSimpArgs false
set_option linter.unusedVariables false
set_option maxRecDepth 100000
def SaidO (F : FuncId) (args : List Value) (o : List Tok → O) (Rt : V → Value → World → World → Prop) : Prop := ∀ (bp : Nat) (a : Option Addr) (cap : Nat) (L : List (Tok × Nat)) (k : Nat) (w : World) (x : Pr), Ps bp a cap L k w → Tk L → k < L.length → o (rem L k) = some x →
  Calls Tryz.prog F (List.toArray (.pointer (some ⟨bp, 0, none⟩) :: args)) w (PR Rt bp L k w x)
theorem SaidO.go2 {bp : Nat} {a : Option Addr} {cap : Nat} {L : List (Tok × Nat)} {w u : World} {k : Nat} {x : Pr} {F : FuncId} {args : List Value} {o : List Tok → O} {Rt : V → Value → World → World → Prop} (h : SaidO F args o Rt) (s : St bp a cap L w k u) (hT : Tk L) (hk : k < L.length) {K : V → List Tok → O} (hx : bnd (o (rem L k)) K = some x) :
    Calls Tryz.prog F (List.toArray (.pointer (some ⟨bp, 0, none⟩) :: args)) u fun e u' => Bad bp L w x e u' ∨ ∃ v k' val, k ≤ k' ∧ k' < L.length ∧ K v (rem L k') = some x ∧ e = .returned val ∧ Rt v val u u' ∧ Mv bp k' u u' := by
 obtain ⟨p, hp, hx⟩ := bnd_some hx
 refine (h bp a cap L k u p s.ps hT hk hp).mono fun e u' h2 => ?_
 cases p with
 | bad r => exact .inl (Bad.of s hx h2)
 | ok v r =>
  obtain ⟨k2, val, h1, h3, rfl, h4, h5, h6⟩ := h2
  exact .inr ⟨v, k2, val, h1, h3, hx, h4, h5, h6⟩
theorem bnd_ite (c : Prop) [Decidable c] (A B : O) (K : V → List Tok → O) : bnd (if c then A else B) K = if c then bnd A K else bnd B K := by split <;> rfl
def dropO (f : Nat) (l : List Tok) : O := bnd (run f (.vars []) l) fun z r => okP (.cl { bareC 8 with vars := z.strs }) r
theorem cl_det {S : Nat → Prop} {w : World} {cs : List Value} {c : Clt} (h : HG (fun u => RCl u cs c) S w) : HG (fun u => RCl u (cs.set 21 (.bool true)) { c with detach := true }) S w :=
  h.imp fun u ⟨a1, c1, a2, c2, xe, a5, c5, a7, c7, a8, c8, a9, c9, a10, c10, a11, c11, e, hk, t1, g1, t2, g2, g3, t5, g5, t7, g7, t8, g8, t9, g9, t10, g10, t11, g11⟩ => by
    obtain ⟨op, nm, vk, vb, vi, vs, la, ln, lc, ka, kn, kc, na, nn, nc, xa, xn, xc, rfl⟩ := isX_ten g3
    exact ⟨a1, c1, a2, c2, _, a5, c5, a7, c7, a8, c8, a9, c9, a10, c10, a11, c11, by rw [e]; rfl, hk, t1, g1, t2, g2, g3, t5, g5, t7, g7, t8, g8, t9, g9, t10, g10, t11, g11⟩
structure VarAt (bp : Nat) (a : Option Addr) (cap : Nat) (L : List (Tok × Nat)) (w : World) (f b4 kb : Nat) (K : V → List Tok → O) (x : Pr) (g k : Nat) (S : Nat → Prop) (lv : Value) (l : List ByteArray) (u : World) : Prop where
  st : St bp a cap L w k u
  lt : k < L.length
  ge : kb ≤ k
  ln : l.length ≤ k + 1
  r4 : Block u w.heap.size [.int .i64 0, .slice none 0 0, .slice none 0 0, .int .i64 0, .string ⟨#[]⟩, .int .i64 0, .bool false, .int .i64 0, .string ⟨#[]⟩, .slice none 0 0, .slice none 0 0, .slice none 0 0, .slice none 0 0, .string ⟨#[]⟩, .slice none 0 0, .bool false, .slice none 0 0, .slice none 0 0, .slice none 0 0, .slice none 0 0, .slice none 0 0, .bool false] 71
  r5 : Block u b4 [.int .i64 8, .slice none 0 0, .slice none 0 0, .int .i64 0, .string ⟨#[]⟩, .int .i64 0, .bool false, .int .i64 0, .string ⟨#[]⟩, .slice none 0 0, .slice none 0 0, .slice none 0 0, .slice none 0 0, .string ⟨#[]⟩, .slice none 0 0, .bool false, .slice none 0 0, .slice none 0 0, .slice none 0 0, .slice none 0 0, lv, .bool false] 71
  hb : w.heap.size < b4
  row : Row RS 9 1 (w.heap.size + 1) S u lv l
  fa : ∀ q, (S q ∨ lv.ownBlock = some q) → q ≠ b4
  le : g ≤ f
  rn : (if isT 5 [44] (rem L k) = true then bnd (run g (.vars l) (rem L (k + 1))) K else K (.ss l) (rem L k)) = some x
set_option maxHeartbeats 8000000 in
theorem drop_any {f : Nat} (bp : Nat) (a : Option Addr) (cap : Nat) (L : List (Tok × Nat)) (k : Nat) (w : World) (x : Pr) (h : Ps bp a cap L k w) (hT : Tk L) (hk : k < L.length)  (hr : dropO f (rem L k) = some x) :
    Calls Tryz.prog 85 #[.pointer (some ⟨bp, 0, none⟩)] w (PR (RtN RCl V.clause) bp L k w x) := by
 have HT := Lib.hid hT
 have HK0 := Lib.hid hk
 have X0 := Lib.hid hr
 have hbw := h.lt
 obtain ⟨u0, hy0⟩ : ∃ u, w.alloc (.cells #[.int .i64 0, .slice none 0 0, .slice none 0 0, .int .i64 0, .string ⟨#[]⟩, .int .i64 0, .bool false, .int .i64 0, .string ⟨#[]⟩, .slice none 0 0, .slice none 0 0, .slice none 0 0, .slice none 0 0, .string ⟨#[]⟩, .slice none 0 0, .bool false, .slice none 0 0, .slice none 0 0, .slice none 0 0, .slice none 0 0, .slice none 0 0, .bool false] 71) = u := ⟨_, rfl⟩
 have s0 : St bp a cap L w k u0 := by rw [← hy0]; exact (St.start h).alloc _
 have b0 : Block u0 w.heap.size [.int .i64 0, .slice none 0 0, .slice none 0 0, .int .i64 0, .string ⟨#[]⟩, .int .i64 0, .bool false, .int .i64 0, .string ⟨#[]⟩, .slice none 0 0, .slice none 0 0, .slice none 0 0, .slice none 0 0, .string ⟨#[]⟩, .slice none 0 0, .bool false, .slice none 0 0, .slice none 0 0, .slice none 0 0, .slice none 0 0, .slice none 0 0, .bool false] 71 := by rw [← hy0]; exact Block.new w _ _
 have B0r := Lib.hid b0
 clear b0
 have S0 := Lib.hid s0
 have HU := Lib.hid hy0
 clear s0 hy0 h hT hk hr
 have z0 := B0r.out.lt
 go_enter Tryz.func85, Tryz.ntmps85
 go_upto_region 1 with fail
 rw [HU.out]
 obtain ⟨g, hg⟩ : ∃ g, f = g + 1 := by cases f with | zero => cases X0.out | succ g => exact ⟨g, rfl⟩
 have XE := X0.out
 obtain ⟨K, hK⟩ : ∃ K : V → List Tok → O, (fun z r => okP (.cl { bareC 8 with vars := z.strs }) r) = K := ⟨_, rfl⟩
 unfold dropO at XE
 rw [hg, hK] at XE
 have XE : bnd (Go.Proofs.YteljlahcdipilaaGreat.step (run g) (.vars []) (rem L k)) K = some x := XE
 simp only [Go.Proofs.YteljlahcdipilaaGreat.step, sigB, tail_rem, bnd_nameP, bnd_ite, bnd_okP, List.nil_append] at XE
 have X9 := Lib.hid XE
 have HKD := Lib.hid hK
 clear XE hK hg
 go_wp2_with (go_at_call 99; refine Stand.out ?_)
 refine Stand.mk ?_
 refine (name_go S0.out HT.out HK0.out X9.out).mono ?_
 rintro e u1 (⟨p9, r9, rfl, rfl, f9⟩ | ⟨n1, l1, x1, rfl, m1⟩)
 ·go_wp2_with fail
  exact ⟨rfl, f9⟩
 have X1 := Lib.hid x1
 have HK1 := Lib.hid l1
 clear x1 l1
 have S1 := Lib.hid (S0.out.call m1)
 have B1r := Lib.hid (m1.blk B0r.out (by omega))
 have zw1 := S1.out.size
 have zz1 := Mv.size m1
 clear m1
 have hTh : ((u1.alloc (.cells #[.string n1] 9)).alloc (.cells #[.int .i64 0, .slice none 0 0, .slice none 0 0, .int .i64 0, .string ⟨#[]⟩, .int .i64 0, .bool false, .int .i64 0, .string ⟨#[]⟩, .slice none 0 0, .slice none 0 0, .slice none 0 0, .slice none 0 0, .string ⟨#[]⟩, .slice none 0 0, .bool false, .slice none 0 0, .slice none 0 0, .slice none 0 0, .slice none 0 0, .slice none 0 0, .bool false] 71)).there (u1.heap.size + 1) 0 22 := by have h := block_there (Block.new (u1.alloc (.cells #[.string n1] 9)) [.int .i64 0, .slice none 0 0, .slice none 0 0, .int .i64 0, .string ⟨#[]⟩, .int .i64 0, .bool false, .int .i64 0, .string ⟨#[]⟩, .slice none 0 0, .slice none 0 0, .slice none 0 0, .slice none 0 0, .string ⟨#[]⟩, .slice none 0 0, .bool false, .slice none 0 0, .slice none 0 0, .slice none 0 0, .slice none 0 0, .slice none 0 0, .bool false] 71) 0 22 (Nat.le_refl 22); simpa using h
 go_wp2_with (refine wpList_store_mid rfl 71 _ _ rfl (u1.heap.size + 1) 0 #[.int .i64 8, .slice none 0 0, .slice none 0 0, .int .i64 0, .string ⟨#[]⟩, .int .i64 0, .bool false, .int .i64 0, .string ⟨#[]⟩, .slice none 0 0, .slice none 0 0, .slice none 0 0, .slice none 0 0, .string ⟨#[]⟩, .slice none 0 0, .bool false, .slice none 0 0, .slice none 0 0, .slice none 0 0, .slice none 0 0, .slice (some ⟨u1.heap.size, 0, none⟩) 1 1, .bool false] rfl rfl hTh (by kernel_rfl) (by simp [Value.oneCell']) ?_)
 go_frame
 obtain ⟨b4, hb4⟩ := nam (u1.heap.size + 1)
 rw [hb4]
 obtain ⟨g9, hg9⟩ := nam u1.heap.size
 obtain ⟨u2, hu2⟩ := nam ((u1.alloc (.cells #[.string n1] 9)))
 have S2 := Lib.hid (show St bp a cap L w (k + 1) u2 from by rw [← hu2]; exact S1.out.alloc _)
 have zz2 : u2.heap.size = b4 := by rw [← hu2, ← hb4]; simp
 have zr := B1r.out.lt
 have B2r := Lib.hid (show Block u2 _ _ _ from by rw [← hu2]; exact B1r.out.alloc _)
 have B2g := Lib.hid (show Block u2 g9 [.string n1] 9 from by rw [← hu2, ← hg9]; exact Block.new u1 _ _)
 obtain ⟨u3, hu3⟩ : ∃ u, (u2.alloc (.cells #[.int .i64 0, .slice none 0 0, .slice none 0 0, .int .i64 0, .string ⟨#[]⟩, .int .i64 0, .bool false, .int .i64 0, .string ⟨#[]⟩, .slice none 0 0, .slice none 0 0, .slice none 0 0, .slice none 0 0, .string ⟨#[]⟩, .slice none 0 0, .bool false, .slice none 0 0, .slice none 0 0, .slice none 0 0, .slice none 0 0, .slice none 0 0, .bool false] 71)).setCells b4 0 ((#[.int .i64 8, .slice none 0 0, .slice none 0 0, .int .i64 0, .string ⟨#[]⟩, .int .i64 0, .bool false, .int .i64 0, .string ⟨#[]⟩, .slice none 0 0, .slice none 0 0, .slice none 0 0, .slice none 0 0, .string ⟨#[]⟩, .slice none 0 0, .bool false, .slice none 0 0, .slice none 0 0, .slice none 0 0, .slice none 0 0, .slice (some ⟨g9, 0, none⟩) 1 1, .bool false] : Array Value).toList) = u := ⟨_, rfl⟩
 rw [hu2, hg9, hu3]
 have zb4 : b4 < u3.heap.size ∧ w.heap.size < g9 ∧ g9 + 1 = b4 := by rw [← hu3, setCells_sz, ← hb4, ← hg9]; simp; omega
 have S3 := Lib.hid (show St bp a cap L w (k + 1) u3 from by rw [← hu3]; exact (S2.out.alloc _).sets (by omega) 0 _)
 have B3r := Lib.hid (show Block u3 _ _ _ from by rw [← hu3]; exact (B2r.out.alloc _).of_heap (cells_other (by have := B2r.out.lt; omega) _ 0 _))
 have B3g := Lib.hid (show Block u3 _ _ _ from by rw [← hu3]; exact (B2g.out.alloc _).of_heap (cells_other (by have := B2g.out.lt; omega) _ 0 _))
 have B3b := Lib.hid (show Block u3 b4 [.int .i64 8, .slice none 0 0, .slice none 0 0, .int .i64 0, .string ⟨#[]⟩, .int .i64 0, .bool false, .int .i64 0, .string ⟨#[]⟩, .slice none 0 0, .slice none 0 0, .slice none 0 0, .slice none 0 0, .string ⟨#[]⟩, .slice none 0 0, .bool false, .slice none 0 0, .slice none 0 0, .slice none 0 0, .slice none 0 0, .slice (some ⟨g9, 0, none⟩) 1 1, .bool false] 71 from by rw [← hu3, ← zz2]; exact (Block.new u2 [.int .i64 0, .slice none 0 0, .slice none 0 0, .int .i64 0, .string ⟨#[]⟩, .int .i64 0, .bool false, .int .i64 0, .string ⟨#[]⟩, .slice none 0 0, .slice none 0 0, .slice none 0 0, .slice none 0 0, .string ⟨#[]⟩, .slice none 0 0, .bool false, .slice none 0 0, .slice none 0 0, .slice none 0 0, .slice none 0 0, .slice none 0 0, .bool false] 71).all [.int .i64 8, .slice none 0 0, .slice none 0 0, .int .i64 0, .string ⟨#[]⟩, .int .i64 0, .bool false, .int .i64 0, .string ⟨#[]⟩, .slice none 0 0, .slice none 0 0, .slice none 0 0, .slice none 0 0, .string ⟨#[]⟩, .slice none 0 0, .bool false, .slice none 0 0, .slice none 0 0, .slice none 0 0, .slice none 0 0, .slice (some ⟨g9, 0, none⟩) 1 1, .bool false] rfl)
 clear hu3 hb4 hTh hu2
 go_loopg [] g (fun g' wr => ∃ k0 S lv l, Hid (VarAt bp a cap L w g b4 k K x g' k0 S lv l wr))
 case atStart => exact ⟨k + 1, _, _, [n1], Lib.hid ⟨S3.out, HK1.out, by omega, by simp, B3r.out, B3b.out, by omega, Row.one_at B3g.out (nameG _ n1) rfl (fun _ h => h.elim) (by omega), fun q hq => by rcases hq with hq | hq; exact hq.elim; have e : g9 = q := Option.some.inj hq; omega, Nat.le_refl _, by have h := X1.out; simp only [bnd_ite, tail_rem, bnd_okP] at h; exact h⟩⟩
 case round =>
  clear X1 X9 X0 S3 B3r B3b B3g HU
  obtain ⟨k0, S, lv, l, hP⟩ := hrel
  have hP := hP.out
  have S20 := Lib.hid hP.st
  have zw20 := hP.st.size
  have R20a := Lib.hid hP.row
  have B20r := Lib.hid hP.r4
  have B20b := Lib.hid hP.r5
  have HK20 := Lib.hid hP.lt
  have hln := hP.ln
  have hge := hP.ge
  have hll := hP.lt
  have hL := hP.st.ln
  have hgf := hP.le
  have hb4 := hP.hb
  have zb5 := hP.r5.lt
  have FA := Lib.hid hP.fa
  have RN := Lib.hid hP.rn
  clear hP
  cases h44 : isT 5 [44] (rem L k0) with
  | true =>
   have RY := RN.out
   simp only [h44, if_true] at RY
   obtain ⟨g2, hg2⟩ : ∃ g2, gk = g2 + 1 := by cases gk with | zero => cases RY | succ g2 => exact ⟨g2, rfl⟩
   rw [hg2] at RY
   have RY : bnd (Go.Proofs.YteljlahcdipilaaGreat.step (run g2) (.vars l) (rem L (k0 + 1))) K = some x := RY
   simp only [Go.Proofs.YteljlahcdipilaaGreat.step, sigB, tail_rem, bnd_nameP, bnd_ite, bnd_okP] at RY
   have RZ := Lib.hid RY
   clear RY
   go_wp2_with (go_at_call 103; refine Stand.out ?_)
   refine Stand.mk ?_
   refine (skip_t S20.out HK20.out h44).mono ?_
   rintro e u21 ⟨rfl, m21⟩
   have S21 := Lib.hid (S20.out.call m21)
   have B21r := Lib.hid (m21.blk B20r.out (by omega))
   have B21b := Lib.hid (m21.blk B20b.out (by omega))
   have R21a := Lib.hid (R20a.out.mv m21 (by omega))
   have zw21 := S21.out.size
   have zz21 := Mv.size m21
   clear m21
   have HK21 := Lib.hid (HT.out.next HK20.out h44 (by decide))
   go_upto_region 3 with fail
   obtain ⟨u22, hu22⟩ := nam u21.drew
   have S22 := Lib.hid (show St bp a cap L w (k0 + 1) u22 from by rw [← hu22]; exact S21.out.drew)
   have zz22 : u21.heap.size = u22.heap.size := by rw [← hu22]; rfl
   have B22r := Lib.hid (B21r.out.of_heap (w' := u22) (by rw [← hu22]; rfl))
   have B22b := Lib.hid (B21b.out.of_heap (w' := u22) (by rw [← hu22]; rfl))
   have R22a := Lib.hid (R21a.out.same (w1 := u22) (fun _ _ => by rw [← hu22]; rfl))
   refine wp_region_J (S := (fun w' : World => w'.cell? ⟨b4, 20, none⟩ = some (lv))) (fun j => j == 7) (by kernel_rfl) ?_
   rw [hu22]
   clear hu22
   have hHeld : ((fun w' : World => w'.cell? ⟨b4, 20, none⟩ = some (lv))) u22 := B22b.out.cell (i := 20) rfl
   refine Jt 0 ?_
   refine Jl 1 ?_
   refine Jt 2 ?_
   refine Jr 3 fun KK hKK => ?_
   go_simp
   go_at_call 99
   refine (name_go S22.out HT.out HK21.out RZ.out).mono ?_
   rintro e u23 (⟨p9, r9, rfl, rfl, f9⟩ | ⟨n23, l23, x23, rfl, m23⟩)
   ·exact ⟨rfl, f9⟩
   have X23 := Lib.hid x23
   have HK23 := Lib.hid l23
   clear x23 l23
   have S23 := Lib.hid (S22.out.call m23)
   have B23r := Lib.hid (m23.blk B22r.out (by omega))
   have B23b := Lib.hid (m23.blk B22b.out (by omega))
   have R23a := Lib.hid (R22a.out.mv m23 (by omega))
   have zw23 := S23.out.size
   have zz23 := Mv.size m23
   clear m23
   refine hKK _ _ (fun _ _ => B23b.out.cell (i := 20) rfl) ?_
   clear hKK KK hHeld
   have hHeld := B23b.out.cell (i := 20) rfl
   refine Jn ?_
   refine Jr 4 fun KK hKK => ?_
   go_simp
   refine hKK _ _ (fun _ _ => (B23b.out.alloc _).cell (i := 20) rfl) ?_
   clear hKK KK hHeld
   have hHeld := (B23b.out.alloc (.cells #[.string n23] 9)).cell (i := 20) rfl
   refine Jn ?_
   refine Jr 5 fun KK hKK => ?_
   refine step_append_row (R := RS) rfl _ _ 62 rfl Tryz.underlying62 Tryz.infoS rfl (by decide) (by decide) R23a.out (nameG u23 n23) rfl (fun _ h => h.elim) rfl rfl (by simp [Value.oneCell']) (by omega) (by omega) ?_
   intro lv24 u24 hR hg ho hp
   obtain ⟨ga24, gn24, gc24, rfl⟩ := hR.slice
   have S24 := Lib.hid ((S23.out.alloc _).grown hg (fun q e => by have := ho q e; omega))
   have R24a := Lib.hid hR
   have zz24 : u23.heap.size + 1 ≤ u24.heap.size := by have := hg.size; simpa using this
   have B24r := Lib.hid (B23r.out.of_heap (w' := u24) ((hg.block _ (by have := B23r.out.lt; simp; omega) (fun e => by have := ho _ e.symm; omega)).trans (Below.heap_alloc _ _ _ B23r.out.lt)))
   have B24b := Lib.hid (B23b.out.of_heap (w' := u24) ((hg.block _ (by have := B23b.out.lt; simp; omega) (fun e => FA.out _ (.inr e.symm) rfl)).trans (Below.heap_alloc _ _ _ B23b.out.lt)))
   have FA3 : Hid (∀ q, (S q ∨ (Value.slice ga24 gn24 gc24).ownBlock = some q) → q ≠ b4) := Lib.hid (fun q hq => by rcases hq with hq | hq; exact FA.out q (.inl hq); rcases hp q hq with e | e; exact FA.out q (.inr e); omega)
   refine hKK _ _ (fun _ _ => B24b.out.cell (i := 20) rfl) ?_
   clear hKK KK hHeld
   have hHeld := B24b.out.cell (i := 20) rfl
   refine Jn ?_
   refine Jt 6 ?_
   refine Jr 7 fun KK hKK => ?_
   have d20 := B24b.out.free 20
   have c20 := B24b.out.cell (i := 20) rfl
   go_simp
   have c20 := B24b.out.cell (i := 20) rfl
   have d20 := B24b.out.free 20
   clear c20 d20
   obtain ⟨u25, hu⟩ : ∃ u, (u24.setCell ⟨b4, 20, none⟩ (.slice ga24 gn24 gc24)) = u := ⟨_, rfl⟩
   rw [hu]
   have S25 := Lib.hid (show St bp a cap L w ((k0 + 1) + 1) u25 from by rw [← hu]; exact (S24.out.set (by omega) 20 _))
   have zz25 : u25.heap.size = u24.heap.size := by rw [← hu]; simp [World.size_setCell]
   have hk25 : ∀ q, q ≠ b4 → u25.heap[q]? = u24.heap[q]? := fun q hq => by rw [← hu, Below.heap_setCell _ ⟨b4, 20, none⟩ _ q hq]
   have B25r := Lib.hid (B24r.out.of_heap (hk25 _ (by omega)))
   have B25b := Lib.hid (show Block u25 b4 [.int .i64 8, .slice none 0 0, .slice none 0 0, .int .i64 0, .string ⟨#[]⟩, .int .i64 0, .bool false, .int .i64 0, .string ⟨#[]⟩, .slice none 0 0, .slice none 0 0, .slice none 0 0, .slice none 0 0, .string ⟨#[]⟩, .slice none 0 0, .bool false, .slice none 0 0, .slice none 0 0, .slice none 0 0, .slice none 0 0, .slice ga24 gn24 gc24, .bool false] 71 from by rw [← hu]; exact (B24b.out.set 20 _))
   have R25a := Lib.hid (R24a.out.same (w1 := u25) (fun b hb => hk25 b (FA3.out _ (hb.imp (fun h => h.elim id False.elim) id))))
   clear hu hk25
   refine hKK _ _ (fun h => absurd h (by decide)) ?_
   clear hKK KK hHeld
   refine Jn ?_
   refine wpAnyJ_done (by kernel_rfl) ?_ _
   go_wp2_with fail
   go_roundg g2
   case measure => omega
   case rel => exact ⟨((k0 + 1) + 1), _, _, l ++ [n23], Lib.hid ⟨S25.out, HK23.out, by omega, by simp; omega, B25r.out, B25b.out, hb4, R25a.out, fun q hq => FA3.out q (hq.imp (fun h => h.elim id False.elim) id), by omega, by have h := X23.out; simp only [bnd_ite, tail_rem, bnd_okP] at h; exact h⟩⟩
  | false =>
   have RY := RN.out
   simp only [h44, if_false, Bool.false_eq_true] at RY
   rw [← HKD.out] at RY
   have RZ := Lib.hid RY
   clear RY
   go_wp2_with (go_at_call 103; refine Stand.out ?_)
   refine Stand.mk ?_
   refine (skip_f S20.out HK20.out h44).mono ?_
   rintro e u21 ⟨rfl, m21⟩
   have S21 := Lib.hid (S20.out.call m21)
   have B21r := Lib.hid (m21.blk B20r.out (by omega))
   have B21b := Lib.hid (m21.blk B20b.out (by omega))
   have R21a := Lib.hid (R20a.out.mv m21 (by omega))
   have zw21 := S21.out.size
   have zz21 := Mv.size m21
   clear m21
   obtain ⟨Sv, va, vc, rfl, hsl, hSv, hRv⟩ := R21a.out.fin
   have V21v := Lib.hid (show RowK Sv u21 va l from hRv.imp fun u h => rowS_str h)
   have HSV := Lib.hid hsl
   have hSV : ∀ q, Sv q → w.heap.size + 1 ≤ q := fun q hq => (R21a.out.lt (hSv q hq)).1
   clear hRv hsl
   obtain rfl := Option.some.inj RZ.out
   have hRg := B21b.out.rng
   have hTh := block_there B21r.out 0 22 (Nat.le_refl 22)
   go_wp2_with (first | (refine wpList_load_mid rfl 71 _ rfl b4 0 rfl [.int .i64 8, .slice none 0 0, .slice none 0 0, .int .i64 0, .string ⟨#[]⟩, .int .i64 0, .bool false, .int .i64 0, .string ⟨#[]⟩, .slice none 0 0, .slice none 0 0, .slice none 0 0, .slice none 0 0, .string ⟨#[]⟩, .slice none 0 0, .bool false, .slice none 0 0, .slice none 0 0, .slice none 0 0, .slice none 0 0, .slice va l.length vc, .bool false] _ hRg Tryz.underlying71 rfl (by kernel_rfl) ?_) | (refine wpList_store_mid rfl 71 _ _ rfl w.heap.size 0 #[.int .i64 8, .slice none 0 0, .slice none 0 0, .int .i64 0, .string ⟨#[]⟩, .int .i64 0, .bool false, .int .i64 0, .string ⟨#[]⟩, .slice none 0 0, .slice none 0 0, .slice none 0 0, .slice none 0 0, .string ⟨#[]⟩, .slice none 0 0, .bool false, .slice none 0 0, .slice none 0 0, .slice none 0 0, .slice none 0 0, .slice va l.length vc, .bool false] rfl rfl hTh (by kernel_rfl) (by simp [Value.oneCell']) ?_))
   have B99 := B21r.out.all [.int .i64 8, .slice none 0 0, .slice none 0 0, .int .i64 0, .string ⟨#[]⟩, .int .i64 0, .bool false, .int .i64 0, .string ⟨#[]⟩, .slice none 0 0, .slice none 0 0, .slice none 0 0, .slice none 0 0, .string ⟨#[]⟩, .slice none 0 0, .bool false, .slice none 0 0, .slice none 0 0, .slice none 0 0, .slice none 0 0, .slice va l.length vc, .bool false] rfl
   refine bodyPost_ret (results_cell_row (by rfl) _ _ w.heap.size 71 _ (0, 0) _ (by rfl) B99 Tryz.underlying71 rfl (by kernel_rfl)) rfl ?_
   have VC := mk_cl (w := u21) (c := { bareC 8 with vars := l }) (show in64 (8 : Int) from by unfold in64; decide) (nRow _) nil_sl (nRowX _) nil_sl (emptyX_hx _) (nRow _) nil_sl (nRow _) nil_sl (nRowX _) nil_sl (nRowX _) nil_sl (nRow _) nil_sl V21v.out HSV.out
   have hlo : ∀ q, ((((((((False ∨ False) ∨ False) ∨ False) ∨ False) ∨ False) ∨ False) ∨ False) ∨ Sv q) → w.heap.size + 1 ≤ q := fun q h => by
    simp only [or_false, false_or] at h
    exact hSV q h
   exact ⟨k0, _, by omega, HK20.out, rfl, rfl, RtN.mk (VC.sets 0 _ (fun h => absurd (hlo _ h) (by omega))) (rfl) (fun b h => by have := hlo b h; omega), (S21.out.sets (Nat.le_refl _) 0 _).mv⟩
theorem drop_s (f : Nat) : SaidO 85 [] (dropO f) (RtN RCl V.clause) := fun bp a cap L k w x h hT hk hr => drop_any bp a cap L k w x h hT hk hr
set_option maxHeartbeats 8000000 in
theorem detach_any {f : Nat} (bp : Nat) (a : Option Addr) (cap : Nat) (L : List (Tok × Nat)) (k : Nat) (w : World) (x : Pr) (h : Ps bp a cap L k w) (hT : Tk L) (hk : k < L.length)  (hr : run (f + 1) (.clause wDETACH) (rem L k) = some x) :
    Calls Tryz.prog 86 #[.pointer (some ⟨bp, 0, none⟩)] w (PR (RtN RCl V.clause) bp L k w x) := by
 have hr : Go.Proofs.YteljlahcdipilaaGreat.step (run f) (.clause wDETACH) (rem L k) = some x := hr
 simp only [Go.Proofs.YteljlahcdipilaaGreat.step, (by decide : ¬ (wDETACH : List UInt8) = wMATCH), (by decide : ¬ (wDETACH : List UInt8) = wUNWIND), (by decide : ¬ (wDETACH : List UInt8) = wWITH), (by decide : ¬ (wDETACH : List UInt8) = wRETURN), (by decide : ¬ (wDETACH : List UInt8) = wCREATE), (by decide : ¬ (wDETACH : List UInt8) = wMERGE), (by decide : ¬ (wDETACH : List UInt8) = wSET), (by decide : ¬ (wDETACH : List UInt8) = wREMOVE), (by decide : ¬ (wDETACH : List UInt8) = wDELETE), wrd, sigB, if_true, if_false, tail_rem] at hr
 have HT := Lib.hid hT
 have HK0 := Lib.hid hk
 have X0 := Lib.hid hr
 have hbw := h.lt
 obtain ⟨u0, hy0⟩ : ∃ u, w.alloc (.cells #[.int .i64 0, .slice none 0 0, .slice none 0 0, .int .i64 0, .string ⟨#[]⟩, .int .i64 0, .bool false, .int .i64 0, .string ⟨#[]⟩, .slice none 0 0, .slice none 0 0, .slice none 0 0, .slice none 0 0, .string ⟨#[]⟩, .slice none 0 0, .bool false, .slice none 0 0, .slice none 0 0, .slice none 0 0, .slice none 0 0, .slice none 0 0, .bool false] 71) = u := ⟨_, rfl⟩
 have s0 : St bp a cap L w k u0 := by rw [← hy0]; exact (St.start h).alloc _
 have b0 : Block u0 w.heap.size [.int .i64 0, .slice none 0 0, .slice none 0 0, .int .i64 0, .string ⟨#[]⟩, .int .i64 0, .bool false, .int .i64 0, .string ⟨#[]⟩, .slice none 0 0, .slice none 0 0, .slice none 0 0, .slice none 0 0, .string ⟨#[]⟩, .slice none 0 0, .bool false, .slice none 0 0, .slice none 0 0, .slice none 0 0, .slice none 0 0, .slice none 0 0, .bool false] 71 := by rw [← hy0]; exact Block.new w _ _
 have B0r := Lib.hid b0
 clear b0
 have S0 := Lib.hid s0
 have HU := Lib.hid hy0
 clear s0 hy0 h hT hk hr
 have z0 := B0r.out.lt
 go_enter Tryz.func86, Tryz.ntmps86
 go_upto_region 1 with fail
 rw [HU.out]
 go_wp2_with (go_at_call 98; refine Stand.out ?_)
 refine Stand.mk ?_
 refine (mustWord_go S0.out HT.out HK0.out X0.out).mono ?_
 rintro e u1 (⟨p9, r9, rfl, rfl, f9⟩ | ⟨l1, x1, rfl, m1⟩)
 ·go_wp2_with fail
  exact ⟨rfl, f9⟩
 have X1 := Lib.hid x1
 have HK1 := Lib.hid l1
 clear x1 l1
 have S1 := Lib.hid (S0.out.call m1)
 have B1r := Lib.hid (m1.blk B0r.out (by omega))
 have zw1 := S1.out.size
 have zz1 := Mv.size m1
 clear m1
 have XE : bnd (dropO f (rem L (k + 1))) (fun c r => okP (.cl { c.clause with detach := true }) r) = some x := by have h := X1.out; unfold dropO; rw [bnd_bnd]; exact h
 have XE := Lib.hid XE
 go_wp2_with (go_at_call 85; refine Stand.out ?_)
 refine Stand.mk ?_
 refine ((drop_s f).go2 S1.out HT.out HK1.out XE.out).mono ?_
 rintro e u2 (⟨p9, r9, rfl, rfl, f9⟩ | ⟨v2, k2, val2, q2, l2, x2, rfl, ⟨T2, ds2, rfl, hT2, hX2⟩, m2⟩)
 ·go_wp2_with fail
  exact ⟨rfl, f9⟩
 have X2 := Lib.hid x2
 have HK2 := Lib.hid l2
 clear x2 l2
 have S2 := Lib.hid (S1.out.call m2)
 have B2r := Lib.hid (m2.blk B1r.out (by omega))
 have zw2 := S2.out.size
 have zz2 := Mv.size m2
 clear m2
 obtain ⟨kd2, a12, n12, c12, a22, n22, c22, op2, nm2, vk2, vb2, vi2, vs2, la2, ln2, lc2, ka2, kn2, kc2, na2, nn2, nc2, xa2, xn2, xc2, vr2, a52, n52, c52, un2, a72, n72, c72, a82, n82, c82, a92, n92, c92, a102, n102, c102, a112, n112, c112, de2, rfl⟩ := cl_cells hX2
 have V2p := Lib.hid hX2
 clear hX2
 have Np := Lib.hid hT2
 have hTh := block_there (Block.new u2 [.int .i64 0, .slice none 0 0, .slice none 0 0, .int .i64 0, .string ⟨#[]⟩, .int .i64 0, .bool false, .int .i64 0, .string ⟨#[]⟩, .slice none 0 0, .slice none 0 0, .slice none 0 0, .slice none 0 0, .string ⟨#[]⟩, .slice none 0 0, .bool false, .slice none 0 0, .slice none 0 0, .slice none 0 0, .slice none 0 0, .slice none 0 0, .bool false] 71) 0 22 (Nat.le_refl 22)
 go_upto_region 3 with (first | (refine wpList_store_mid rfl 71 _ _ rfl u2.heap.size 0 #[.int .i64 kd2, .slice a12 n12 c12, .slice a22 n22 c22, .int .i64 op2, .string nm2, .int .i64 vk2, .bool vb2, .int .i64 vi2, .string vs2, .slice la2 ln2 lc2, .slice ka2 kn2 kc2, .slice na2 nn2 nc2, .slice xa2 xn2 xc2, .string vr2, .slice a52 n52 c52, .bool un2, .slice a72 n72 c72, .slice a82 n82 c82, .slice a92 n92 c92, .slice a102 n102 c102, .slice a112 n112 c112, .bool de2] rfl rfl hTh (by kernel_rfl) (by simp [Value.oneCell']) ?_))
 go_frame
 obtain ⟨b4, hb4⟩ := nam u2.heap.size
 rw [hb4]
 obtain ⟨u3, hu3⟩ : ∃ u, (u2.alloc (.cells #[.int .i64 0, .slice none 0 0, .slice none 0 0, .int .i64 0, .string ⟨#[]⟩, .int .i64 0, .bool false, .int .i64 0, .string ⟨#[]⟩, .slice none 0 0, .slice none 0 0, .slice none 0 0, .slice none 0 0, .string ⟨#[]⟩, .slice none 0 0, .bool false, .slice none 0 0, .slice none 0 0, .slice none 0 0, .slice none 0 0, .slice none 0 0, .bool false] 71)).setCells b4 0 ((#[.int .i64 kd2, .slice a12 n12 c12, .slice a22 n22 c22, .int .i64 op2, .string nm2, .int .i64 vk2, .bool vb2, .int .i64 vi2, .string vs2, .slice la2 ln2 lc2, .slice ka2 kn2 kc2, .slice na2 nn2 nc2, .slice xa2 xn2 xc2, .string vr2, .slice a52 n52 c52, .bool un2, .slice a72 n72 c72, .slice a82 n82 c82, .slice a92 n92 c92, .slice a102 n102 c102, .slice a112 n112 c112, .bool de2] : Array Value).toList) = u := ⟨_, rfl⟩
 rw [hu3]
 have zb4 : b4 < u3.heap.size ∧ w.heap.size < b4 ∧ u2.heap.size ≤ u3.heap.size ∧ u2.heap.size = b4 := by have := B2r.out.lt; rw [← hu3, setCells_sz, ← hb4]; simp <;> omega
 have S3 := Lib.hid (show St bp a cap L w k2 u3 from by rw [← hu3]; exact (S2.out.alloc _).sets (by have := S2.out.size; omega) 0 _)
 have B3r := Lib.hid (show Block u3 _ _ _ from by rw [← hu3]; exact (B2r.out.alloc _).of_heap (cells_other (by have := B2r.out.lt; omega) _ 0 _))
 have B3b := Lib.hid (show Block u3 b4 [.int .i64 kd2, .slice a12 n12 c12, .slice a22 n22 c22, .int .i64 op2, .string nm2, .int .i64 vk2, .bool vb2, .int .i64 vi2, .string vs2, .slice la2 ln2 lc2, .slice ka2 kn2 kc2, .slice na2 nn2 nc2, .slice xa2 xn2 xc2, .string vr2, .slice a52 n52 c52, .bool un2, .slice a72 n72 c72, .slice a82 n82 c82, .slice a92 n92 c92, .slice a102 n102 c102, .slice a112 n112 c112, .bool de2] 71 from by rw [← hu3, ← hb4]; exact (Block.new u2 [.int .i64 0, .slice none 0 0, .slice none 0 0, .int .i64 0, .string ⟨#[]⟩, .int .i64 0, .bool false, .int .i64 0, .string ⟨#[]⟩, .slice none 0 0, .slice none 0 0, .slice none 0 0, .slice none 0 0, .string ⟨#[]⟩, .slice none 0 0, .bool false, .slice none 0 0, .slice none 0 0, .slice none 0 0, .slice none 0 0, .slice none 0 0, .bool false] 71).all [.int .i64 kd2, .slice a12 n12 c12, .slice a22 n22 c22, .int .i64 op2, .string nm2, .int .i64 vk2, .bool vb2, .int .i64 vi2, .string vs2, .slice la2 ln2 lc2, .slice ka2 kn2 kc2, .slice na2 nn2 nc2, .slice xa2 xn2 xc2, .string vr2, .slice a52 n52 c52, .bool un2, .slice a72 n72 c72, .slice a82 n82 c82, .slice a92 n92 c92, .slice a102 n102 c102, .slice a112 n112 c112, .bool de2] rfl)
 have V3p := Lib.hid (show HG _ _ u3 from by rw [← hu3]; exact (V2p.out.alloc _).sets 0 _ (fun h => absurd (V2p.out.1 _ h) (by omega)))
 clear hu3 hb4 hTh
 have c21 := B3b.out.cell (i := 21) rfl
 have d21 := B3b.out.free 21
 go_upto_region 4 with fail
 clear c21 d21
 obtain ⟨u4, hu⟩ : ∃ u, (u3.setCell ⟨b4, 21, none⟩ (.bool true)) = u := ⟨_, rfl⟩
 rw [hu]
 have S4 := Lib.hid (show St bp a cap L w k2 u4 from by rw [← hu]; exact (S3.out.set (by omega) 21 _))
 have zz4 : u4.heap.size = u3.heap.size := by rw [← hu]; simp [World.size_setCell]
 have hk4 : ∀ q, q ≠ b4 → u4.heap[q]? = u3.heap[q]? := fun q hq => by rw [← hu, Below.heap_setCell _ ⟨b4, 21, none⟩ _ q hq]
 have B4r := Lib.hid (B3r.out.of_heap (hk4 _ (by omega)))
 have B4b := Lib.hid (show Block u4 b4 [.int .i64 kd2, .slice a12 n12 c12, .slice a22 n22 c22, .int .i64 op2, .string nm2, .int .i64 vk2, .bool vb2, .int .i64 vi2, .string vs2, .slice la2 ln2 lc2, .slice ka2 kn2 kc2, .slice na2 nn2 nc2, .slice xa2 xn2 xc2, .string vr2, .slice a52 n52 c52, .bool un2, .slice a72 n72 c72, .slice a82 n82 c82, .slice a92 n92 c92, .slice a102 n102 c102, .slice a112 n112 c112, .bool true] 71 from by rw [← hu]; exact (B3b.out.set 21 _))
 have V4p := Lib.hid (V3p.out.same (w1 := u4) (fun b hb => hk4 b (fun e => absurd (V2p.out.1 _ hb) (by omega))))
 clear hu hk4
 obtain rfl := Option.some.inj X2.out
 have hRg := B4b.out.rng
 have hTh := block_there B4r.out 0 22 (Nat.le_refl 22)
 go_wp2_with (first | (refine wpList_load_mid rfl 71 _ rfl b4 0 rfl [.int .i64 kd2, .slice a12 n12 c12, .slice a22 n22 c22, .int .i64 op2, .string nm2, .int .i64 vk2, .bool vb2, .int .i64 vi2, .string vs2, .slice la2 ln2 lc2, .slice ka2 kn2 kc2, .slice na2 nn2 nc2, .slice xa2 xn2 xc2, .string vr2, .slice a52 n52 c52, .bool un2, .slice a72 n72 c72, .slice a82 n82 c82, .slice a92 n92 c92, .slice a102 n102 c102, .slice a112 n112 c112, .bool true] _ hRg Tryz.underlying71 rfl (by kernel_rfl) ?_) | (refine wpList_store_mid rfl 71 _ _ rfl w.heap.size 0 #[.int .i64 kd2, .slice a12 n12 c12, .slice a22 n22 c22, .int .i64 op2, .string nm2, .int .i64 vk2, .bool vb2, .int .i64 vi2, .string vs2, .slice la2 ln2 lc2, .slice ka2 kn2 kc2, .slice na2 nn2 nc2, .slice xa2 xn2 xc2, .string vr2, .slice a52 n52 c52, .bool un2, .slice a72 n72 c72, .slice a82 n82 c82, .slice a92 n92 c92, .slice a102 n102 c102, .slice a112 n112 c112, .bool true] rfl rfl hTh (by kernel_rfl) (by simp [Value.oneCell']) ?_))
 have B99 := B4r.out.all [.int .i64 kd2, .slice a12 n12 c12, .slice a22 n22 c22, .int .i64 op2, .string nm2, .int .i64 vk2, .bool vb2, .int .i64 vi2, .string vs2, .slice la2 ln2 lc2, .slice ka2 kn2 kc2, .slice na2 nn2 nc2, .slice xa2 xn2 xc2, .string vr2, .slice a52 n52 c52, .bool un2, .slice a72 n72 c72, .slice a82 n82 c82, .slice a92 n92 c92, .slice a102 n102 c102, .slice a112 n112 c112, .bool true] rfl
 refine bodyPost_ret (results_cell_row (by rfl) _ _ w.heap.size 71 _ (0, 0) _ (by rfl) B99 Tryz.underlying71 rfl (by kernel_rfl)) rfl ?_
 exact ⟨k2, _, by omega, HK2.out, rfl, rfl, RtN.mk ((cl_det V4p.out).sets 0 _ (fun h => absurd (hT2 _ h) (by omega))) (rfl) (fun b h => by have := hT2 b h; omega), (S4.out.sets (Nat.le_refl _) 0 _).mv⟩
end Go.Proofs.YteljlahcdipilaaGreat

/- Parts Q82, X51, X52, Q84 of this seat (pruned, scripts that are alike kept once as default arguments: q1, q2, ..). Conditions: each says its own. -/
import Derived.Test.YteljlahcdipilaaGreatG40
import Derived.Test.YteljlahcdipilaaGreatG41
import Derived.Test.YteljlahcdipilaaGreatG45
set_option linter.unusedSimpArgs false
set_option linter.unusedVariables false
set_option maxRecDepth 1000000
set_option maxHeartbeats 64000000
namespace Go.Proofs.YteljlahcdipilaaGreat
open Go.RowKit Go.Shelf
theorem jt (s : ByteArray) (w : World) (hs : s.size <= 1099511627776) (hM : ML w) : gy s w := by
 unfold gy;have H : ∀ w0, Below w.heap.size w w0 -> Calls Tryz.prog 7 #[.string s] w0 (zT (cv s.data.toList) w0) := fun w0 hb => by
  obtain ⟨h1, m, h2⟩ := hM.below hb;exact vu s m w0 hs h2 h1
 cases hL : cv s.data.toList with
 | bad p x =>
  rw [hL] at H;exact ⟨(tL hL).2, fun w0 hb => (H w0 hb).mono fun e w' h => ⟨h.1, h.2⟩⟩
 | ok L =>
  rw [hL] at H;obtain ⟨h1, h2, h3, h4, _⟩ := jJ hL;refine ⟨fun w0 hb => (H w0 hb).mono fun e w' h => ?_, h1, h2, h3, h4⟩;obtain ⟨⟨v, he, ho⟩, hb'⟩ := h;obtain ⟨a, c, rfl⟩ := oO ho;exact ⟨a, c, he, ho, hb'⟩
theorem p8 {s : ByteArray} {L : List (am × Nat)} {v : V} {r : List am} {w : World} (hM : ML w) (hL : cv s.data.toList = .ok L) (h : nM (.stmt []) (aA L 0) (.ok v r)) : sI v (eI ⟨v.clauses⟩) w := by
 intro cs w0 hb hI;obtain ⟨f, hf⟩ := h;have h1 := sK hf;have h2 := (jJ hL).2.2.2.2;exact rg ⟨v.clauses⟩ (fun c _ => rD c) cs w0.heap.size w0 hI (Nat.le_refl _) (hM.below hb) (Nat.le_trans h1 h2)
theorem ut : eI ⟨nW.clauses⟩ = true := by kernel_rfl
theorem BV {s : ByteArray} {L : List (am × Nat)} {v : V} {r : List am} {f : Nat} (w0 : World) (hs : s.size <= 1099511627776) (hM : ML w0) (hsc : cv s.data.toList = .ok L) (hr : run (f + 1) (.stmt []) (aA L 0) = some (.ok v r)) (hb : eI ⟨v.clauses⟩ = true) :
    Calls Tryz.prog 11 #[.string s] w0 fun e w' => Below w0.heap.size w0 w' /\ ∃ S cs, e = .returned (.tuple #[.agg (List.toArray cs), .int .i64 0, .int .i64 0]) /\ HG (fun u => AI u cs ⟨v.clauses⟩) S w' := by
 have hA := jt s w0 hs hM;unfold gy at hA;rw [hsc] at hA;obtain ⟨h1, h2, h3, h4, h5⟩ := hA;have hR := p8 hM hsc ⟨f + 1, hr⟩;rw [hb] at hR;refine (pX s L w0 h1 h2 h3 h4 h5 v r true hR hr).mono fun e w' ⟨g1, g2⟩ => ⟨g1, ?_⟩
 rw [if_pos rfl] at g2;obtain ⟨S, cs, he, -, hX⟩ := g2;exact ⟨S, cs, he, hX⟩
theorem Bj {s : ByteArray} {L : List (am × Nat)} {r : List am} {f : Nat} (w0 : World) (hs : s.size <= 1099511627776) (hM : ML w0) (hsc : cv s.data.toList = .ok L) (hr : run (f + 1) (.stmt []) (aA L 0) = some (.bad r)) :
    Calls Tryz.prog 11 #[.string s] w0 fun e w' => ∃ k y, L[k]? = some y /\ r = aA L k /\ e = .returned (.tuple #[.agg #[.slice none 0 0], .int .i64 y.2, .int .i64 1]) /\ Below w0.heap.size w0 w' := by
 have hA := jt s w0 hs hM;unfold gy at hA;rw [hsc] at hA;obtain ⟨h1, h2, h3, h4, h5⟩ := hA;exact mF s L w0 h1 h2 h3 h4 h5 r hr
theorem xP : (⟨#[109, 97, 116, 99, 104, 32, 40, 110, 58, 65, 41, 45, 45, 62, 40, 109, 41, 32, 114, 101, 116, 117, 114, 110, 32, 110, 46, 107, 32, 43, 32, 49, 32, 97, 115, 32, 120]⟩ : ByteArray).data.toList = Ck := rfl
theorem xQ : (⟨#[77, 65, 84, 67, 72, 32, 40, 110, 32, 82, 69, 84, 85, 82, 78, 32, 110]⟩ : ByteArray).data.toList = Cl := rfl
theorem Cn (w : World) (hM : ML w) : Cp w := fun w0 hb => BV (f := 59) w0 (by decide) (hM.below hb) (by rw [xP]; exact xx) zf ut
theorem Co (w : World) (hM : ML w) : Cq w := by
 intro w0 hb;refine (Bj (f := 59) w0 (by decide) (hM.below hb) (by rw [xQ]; exact xy) zg).mono fun e w' ⟨k, y, g1, g2, g3, g4⟩ => ⟨g4, ?_⟩
 have hk : rA.length - k = 3 := by
  have h := congrArg List.length g2;rw [xz] at h;unfold aA at h;rw [List.length_map, List.length_drop] at h;exact h.symm
 rw [zh] at hk;obtain rfl : k = 3 := by omega
 have hy : y.2 = 9 := by
  have h := AU;rw [g1] at h;exact Option.some.inj h
 rw [hy] at g3;exact g3
theorem uu (w : World) (hM : ML w) : Calls Tryz.prog 8 #[] w fun e w' => e = .returned (.bool true) /\ Below w.heap.size w w' := rB w (Cn w hM) (Co w hM)
theorem qa : ∀ (l m : List Vt), (∀ (j : Nat) t, l[j]? = some t -> ∀ u, dV t u = true ↔ t = u) -> (dl l m = true ↔ l = m) := by
 intro l
 induction l with
 | nil => intro m _; cases m <;> simp [dl]
 | cons t ts ih =>
  intro m h;cases m with
  | nil => simp [dl]
  | cons u us =>
   have h0 := h 0 t rfl u;have h1 := ih us (fun j t ht => h (j + 1) t (by simpa using ht));simp only [dl, Bool.and_eq_true, h0, h1, List.cons.injEq]
theorem rE (a : Vt) : ∀ b, dV a b = true ↔ a = b := by
 refine a.down (p := fun a => ∀ b, dV a b = true ↔ a = b) fun k b i s l ks ih c => ?_
 obtain ⟨k', b', i', s', l', ks'⟩ := c;simp only [dV, Bool.and_eq_true, decide_eq_true_eq, qa l l' ih];constructor
 ·rintro ⟨⟨⟨⟨⟨rfl, rfl⟩, rfl⟩, rfl⟩, rfl⟩, rfl⟩; rfl
 ·intro h;injection h with h1 h2 h3 h4 h5 h6
  exact ⟨⟨⟨⟨⟨h1, h2⟩, h3⟩, h4⟩, h6⟩, h5⟩
theorem Ad {C B : Nat} {w W0 : World} {xa : Option Addr} {az : List Ex} (h : cg (bK B w) 10 B w xa az) (hB : B <= w.heap.size) (hbe : ∀ u : aq C W0, Below w.heap.size w u.w) {j : Nat} {t : Ex} (ht : az[j]? = some t) :
    ∃ b off, ∃ c0 c1 c2 c3 c4 c5 c6 c7 c8 c9 : Value, xa = some ⟨b, off, none⟩ /\ b < B /\ (∀ u : aq C W0, u.w.cell? ⟨b, off + j * 10, none⟩ = some c0) /\ (∀ u : aq C W0, u.w.cell? ⟨b, off + j * 10 + 1, none⟩ = some c1) /\ (∀ u : aq C W0, u.w.cell? ⟨b, off + j * 10 + 2, none⟩ = some c2) /\ (∀ u : aq C W0, u.w.cell? ⟨b, off + j * 10 + 3, none⟩ = some c3) /\ (∀ u : aq C W0, u.w.cell? ⟨b, off + j * 10 + 4, none⟩ = some c4) /\ (∀ u : aq C W0, u.w.cell? ⟨b, off + j * 10 + 5, none⟩ = some c5) /\ (∀ u : aq C W0, u.w.cell? ⟨b, off + j * 10 + 6, none⟩ = some c6) /\ (∀ u : aq C W0, u.w.cell? ⟨b, off + j * 10 + 7, none⟩ = some c7) /\ (∀ u : aq C W0, u.w.cell? ⟨b, off + j * 10 + 8, none⟩ = some c8) /\ (∀ u : aq C W0, u.w.cell? ⟨b, off + j * 10 + 9, none⟩ = some c9) /\ ∀ u : aq C W0, bK B u.w [c0, c1, c2, c3, c4, c5, c6, c7, c8, c9] t := by
 obtain ⟨b, off, cs, h1, h2, h3, h4⟩ := h.at_ext hB hbe ht;obtain ⟨op, nm, v, ns, az2⟩ := t;obtain ⟨k, bo, i, s, l, ks, la, lc, ka, kc, na, nc, xa2, xc, -, rfl, -⟩ := (h4 (Classical.choice inferInstance)).cells;exact ⟨b, off, _, _, _, _, _, _, _, _, _, _, h1, h2, fun u => h3 u 0 _ rfl, fun u => h3 u 1 _ rfl, fun u => h3 u 2 _ rfl, fun u => h3 u 3 _ rfl, fun u => h3 u 4 _ rfl, fun u => h3 u 5 _ rfl, fun u => h3 u 6 _ rfl, fun u => h3 u 7 _ rfl, fun u => h3 u 8 _ rfl, fun u => h3 u 9 _ rfl, h4⟩
theorem zK (w : World) (c1 c2 : List Value) (t1 t2 : TypeId) : ∃ (W0 : World) (u0 : aq (w.heap.size + 2) W0), Hid ((w.alloc (.cells c1.toArray t1)).alloc (.cells c2.toArray t2) = W0) /\ Hid (W0 = u0.w) /\ Hid (w.heap.size + 2 <= W0.heap.size) /\
    Hid (∀ u : aq (w.heap.size + 2) W0, Below w.heap.size w u.w) /\ (∀ (u : aq (w.heap.size + 2) W0) (i : Nat) v, c1[i]? = some v -> u.w.cell? ⟨w.heap.size, i, none⟩ = some v) /\ (∀ (u : aq (w.heap.size + 2) W0) (i : Nat) v, c2[i]? = some v -> u.w.cell? ⟨w.heap.size + 1, i, none⟩ = some v) := by
 obtain ⟨W0, u0, h1, h2, h3, h4, h5, h6⟩ := py w c1 c2 t1 t2;exact ⟨W0, u0, aa h1, aa h2, aa h3, aa h4, h5, h6⟩
theorem zL {t : Ex} {l : List Ex} (h : t ∈ l) : ee t <= dm l := by rw [fy]; exact cV h
theorem jK {α : Type} {R : World -> List Value -> α -> Prop} {C B s : Nat} {w W0 : World} {xa : Option Addr} {l : List α} (h : cg (R w) s B w xa l) (hm : ∀ (u : aq C W0) cs x, R w cs x -> R u.w cs x) (hB : B <= w.heap.size) (hbe : ∀ u : aq C W0, Below w.heap.size w u.w) {j : Nat} {x : α} (hx : l[j]? = some x) :
    ∃ b off cs, xa = some ⟨b, off, none⟩ /\ b < B /\ (∀ (u : aq C W0) (q : Nat) v, cs[q]? = some v -> u.w.cell? ⟨b, off + j * s + q, none⟩ = some v) /\ ∀ u : aq C W0, R u.w cs x := by
 obtain ⟨b, off, cs, h1, h2, h3, h4, h5⟩ := h j x hx;exact ⟨b, off, cs, h1, h2, fun u q v hv => ((hbe u).cell (p := ⟨b, off + j * s + q, none⟩) (by show b < _; omega)).trans (by rw [Nat.add_assoc]; exact h4 q v hv), fun u => hm u _ _ h5⟩
def uv {C : Nat} {W0 : World} (p : aq C W0) (hC : C <= W0.heap.size) (v : aq p.w.heap.size p.w) : aq C W0 := ⟨v.w, p.below.trans (v.below.mono (Nat.le_trans hC p.below.size))⟩
theorem Cr {w : World} {b : Nat} {x0 x1 x2 x3 : Value} {t : TypeId} (h : Hid (ae w b [x0, x1, x2, x3] t)) : (∀ v : aq w.heap.size w, v.w.cell? ⟨b, 0, none⟩ = some x0) /\ (∀ v : aq w.heap.size w, v.w.cell? ⟨b, 1, none⟩ = some x1) /\ (∀ v : aq w.heap.size w, v.w.cell? ⟨b, 2, none⟩ = some x2) /\ (∀ v : aq w.heap.size w, v.w.cell? ⟨b, 3, none⟩ = some x3) :=
  ⟨aP _ (h.out.cell (i := 0) rfl) h.out.lt, aP _ (h.out.cell (i := 1) rfl) h.out.lt, aP _ (h.out.cell (i := 2) rfl) h.out.lt, aP _ (h.out.cell (i := 3) rfl) h.out.lt⟩
theorem Cs {w : World} {b : Nat} {x0 x1 x2 x3 x4 : Value} {t : TypeId} (h : Hid (ae w b [x0, x1, x2, x3, x4] t)) : (∀ v : aq w.heap.size w, v.w.cell? ⟨b, 0, none⟩ = some x0) /\ (∀ v : aq w.heap.size w, v.w.cell? ⟨b, 1, none⟩ = some x1) /\ (∀ v : aq w.heap.size w, v.w.cell? ⟨b, 2, none⟩ = some x2) /\ (∀ v : aq w.heap.size w, v.w.cell? ⟨b, 3, none⟩ = some x3) /\ (∀ v : aq w.heap.size w, v.w.cell? ⟨b, 4, none⟩ = some x4) :=
  ⟨aP _ (h.out.cell (i := 0) rfl) h.out.lt, aP _ (h.out.cell (i := 1) rfl) h.out.lt, aP _ (h.out.cell (i := 2) rfl) h.out.lt, aP _ (h.out.cell (i := 3) rfl) h.out.lt, aP _ (h.out.cell (i := 4) rfl) h.out.lt⟩
theorem BX {x : oc} {K : Nat} (h : br x <= K) : x.labels.length <= K /\ x.keys.length <= K /\ dm x.vals <= K := by
 have h1 := eG x.labels; have h2 := eG x.keys; unfold br at h; omega
theorem BY {x : od} {K : Nat} (h : bs x <= K) : x.keys.length <= K /\ dm x.vals <= K := by
 have h2 := eG x.keys; unfold bs at h; omega
theorem BZ {p : lL} {K : Nat} (h : bt p <= K) : (∀ x ∈ p.nodes, br x <= K) /\ (∀ x ∈ p.edges, bs x <= K) /\ p.nodes.length <= K /\ p.edges.length <= K := by
 have h1 := ef (f := br) (fun x => by unfold br; omega) p.nodes;have h2 := ef (f := bs) (fun x => by unfold bs; omega) p.edges;unfold bt at h;exact ⟨fun x hx => by have := cV (f := br) hx; omega, fun x hx => by have := cV (f := bs) hx; omega, by omega, by omega⟩
def oa (t : Ex) : Prop := ∀ (cs ds : List Value) (B : Nat) (w : World), bK B w cs t -> bK B w ds t -> B <= w.heap.size -> ee t <= 1099511627776 ->
  Calls Tryz.prog 51 #[.agg cs.toArray, .agg ds.toArray] w fun e w' => e = .returned (.bool true) /\ Below w.heap.size w w'
theorem mH (az : List Ex) (hA : ∀ t ∈ az, oa t) (xa xa2 : Option Addr) (xc xc2 B : Nat) (w : World) (hR : cg (bK B w) 10 B w xa az) (hS : cg (bK B w) 10 B w xa2 az) (hB : B <= w.heap.size) (hw1 : dm az <= 1099511627776) :
    Calls Tryz.prog 50 #[.slice xa az.length xc, .slice xa2 az.length xc2] w fun e w' => e = .returned (.bool true) /\ Below w.heap.size w w' := by
 have hm0 : az.length <= 1099511627776 := by have := dI az; omega
 obtain ⟨u0, hu0⟩ := aq.start w.heap.size w;have HAT := aa (fun (j : Nat) (t : Ex) (ht : az[j]? = some t) => Ad hR hB (fun u : aq w.heap.size w => u.below) ht);have HBT := aa (fun (j : Nat) (t : Ex) (ht : az[j]? = some t) => Ad hS hB (fun u : aq w.heap.size w => u.below) ht);have HCL := aa (fun (t : Ex) (ht : t ∈ az) (cs ds : List Value) (u : aq w.heap.size w) (h1 : bK B u.w cs t) (h2 : bK B u.w ds t) => aJ u (Nat.le_refl _) (hA t ht cs ds B u.w h1 h2 (Nat.le_trans hB u.below.size) (Nat.le_trans (zL ht) hw1)));obtain ⟨m, hm⟩ := nam az.length;rw [hm] at hm0 ⊢;have HM := aa hm;have HU0 := aa hu0;clear hA hR hS hw1 hu0 hm;have hne : ((m : Int) != (m : Int)) = false := by simp
 go_enter Tryz.func50, Tryz.ntmps50;go_wp2_with fail
 go_loopw [5] (fun iv wr => ∃ (j : Nat) (u : aq w.heap.size w), iv = .int .i64 j /\ j <= m /\ wr = u.w) (fun iv _ => m - (intOf iv).toNat)
 case atStart => exact ⟨0, u0, rfl, Nat.zero_le _, HU0.out⟩
 case round =>
  obtain ⟨j, u, rfl, hj, rfl⟩ := hrel
  by_cases hlt : j < m
  ·have hlt' : (j : Int) < m := by omega
   have hj0 : (0 : Int) <= (j : Int) := by omega
   have hwi : IntKind.i64.wrap ((j : Int) + 1) = (j : Int) + 1 := IntWalk.i64_in _ (by omega);obtain ⟨t, ht⟩ := aB (l := az) (j := j) (by have := HM.out; omega);obtain ⟨b, o, c0, c1, c2, c3, c4, c5, c6, c7, c8, c9, rfl, hb, g0, g1, g2, g3, g4, g5, g6, g7, g8, g9, hx⟩ := HAT.out j t ht;obtain ⟨b2, o2, d0, d1, d2, d3, d4, d5, d6, d7, d8, d9, rfl, hb2, f0, f1, f2, f3, f4, f5, f6, f7, f8, f9, hy⟩ := HBT.out j t ht;have HC := aa (fun u => HCL.out t (List.mem_of_getElem? ht) _ _ u (hx u) (hy u));clear hx hy ht;go_wp2_with (refine bI _ (by kernel_rfl) (by kernel_rfl) ?_; (repeat (go_big_quiet_step (with_reducible exact HC.out _))); refine wpQuiet_nil ?_; rintro w9 ⟨u9, rfl⟩);go_round;case rel => exact ⟨j + 1, _, by go_num, by omega, rfl⟩
   case measure => simp [intOf]; omega
  ·have hlt' : ¬ (j : Int) < m := by omega
   go_wp2_with fail;go_ret;exact ⟨rfl, aq.below _⟩
theorem eK {α : Type} [BEq α] [LawfulBEq α] (a : α) : (a == a) = true := by simp
theorem ed {α : Type} [BEq α] [LawfulBEq α] (a : α) : (a != a) = false := by simp
theorem rF (v : Vt) : dV v v = true := (rE v v).2 rfl
theorem ob (t : Ex) : oa t := by
 refine t.down (p := oa) fun op nm v ns az ih cs ds B w hX hY hB hw1 => ?_
 have HX := aa hX;have HY := aa hY;obtain ⟨k, b, i, s, l, ks, la, lc, ka, kc, na, nc, xa, xc, hv, rfl, hop, hV, hNA, hXA, hNS, hAZ⟩ := hX.cells;obtain ⟨k2, b2, i2, s2, l2, ks2, la2, lc2, ka2, kc2, na2, nc2, xa2, xc2, hv2, rfl, hop2, hV2, hNA2, hXA2, hNS2, hAZ2⟩ := hY.cells;clear hX hY;have hn0 : ns.length <= 1099511627776 := by have := eG ns; simp only [ee] at hw1; omega
 have hm1 : dm az <= 1099511627776 := by simp only [ee] at hw1; omega
 obtain ⟨W0, u0, HW0, HU0, HSZ, HBE, hc1, hc2⟩ := zK w [.int .i64 op, .string nm, .int .i64 k, .bool b, .int .i64 i, .string s, .slice la l.length lc, .slice ka ks.length kc, .slice na ns.length nc, .slice xa az.length xc] [.int .i64 op, .string nm, .int .i64 k2, .bool b2, .int .i64 i2, .string s2, .slice la2 l2.length lc2, .slice ka2 ks2.length kc2, .slice na2 ns.length nc2, .slice xa2 az.length xc2] 66 66;obtain ⟨e0, e1, e2, e3, e4, e5, e6, e7, e8, e9⟩ := ce10 hc1;obtain ⟨f0, f1, f2, f3, f4, f5, f6, f7, f8, f9⟩ := ce10 hc2;have HSV := aa (fun u : aq (w.heap.size + 2) W0 => aJ u HSZ.out (vx v v _ _ B u.w (dR.below (HBE.out u) hB _ _ hV) (dR.below (HBE.out u) hB _ _ hV2) (Nat.le_trans hB (HBE.out u).size)));have HSN := aa (fun u : aq (w.heap.size + 2) W0 => aJ u HSZ.out (du ns ns na na2 nc nc2 B u.w (hNS.below (HBE.out u) hB) (hNS2.below (HBE.out u) hB) (Nat.le_trans hB (HBE.out u).size) (by omega) (by omega)));have HSX := aa (fun u : aq (w.heap.size + 2) W0 => aJ u HSZ.out (mH az (fun t ht => by obtain ⟨j, hj⟩ := List.getElem?_of_mem ht; exact ih j t hj) xa xa2 xc xc2 B u.w (hAZ.below (HBE.out u) hB (fun _ _ h => bK.below (HBE.out u) hB _ _ h)) (hAZ2.below (HBE.out u) hB (fun _ _ h => bK.below (HBE.out u) hB _ _ h)) (Nat.le_trans hB (HBE.out u).size) hm1));rw [rF] at HSV;rw [show decide (ns = ns) = true from decide_eq_true rfl] at HSN;have q0 : (op == op) = true := by simp
 have q1 : (nm.toList == nm.toList) = true := by simp
 clear hc1 hc2 hm1 hn0 hAZ hAZ2 hNS hNS2 hNA hNA2 hXA hXA2 hV hV2 hop hop2 hv hv2 ih hw1 HX HY;generalize l.length = ll at *;generalize ks.length = kl at *;generalize ns.length = n at *;generalize az.length = m at *;generalize l2.length = ll2 at *;generalize ks2.length = kl2 at *;go_enter Tryz.func51, Tryz.ntmps51;go_upto_region 1 with fail;rw [HW0.out, HU0.out];go_wp2_with (first | (go_at_call 89; refine (HSV.out _).mono ?_; rintro e w2 ⟨rfl, u2, rfl⟩) | (go_at_call 52; refine (HSN.out _).mono ?_; rintro e w2 ⟨rfl, u3, rfl⟩) | (go_at_call 50; refine (HSX.out _).mono ?_; rintro e w2 ⟨rfl, u4, rfl⟩));go_ret;exact ⟨by rfl, HBE.out _⟩
theorem zN (p : lL) (cs ds : List Value) (B : Nat) (w : World) (hX : iT B w cs p) (hY : iT B w ds p) (hB : B <= w.heap.size) (hw1 : bt p <= 1099511627776) :
    Calls Tryz.prog 53 #[.agg cs.toArray, .agg ds.toArray] w fun e w' => e = .returned (.bool true) /\ Below w.heap.size w w' := by
 obtain ⟨nl, el⟩ := p;obtain ⟨na1, nc1, ea1, ec1, rfl, -, hn1, -, he1⟩ := hX;obtain ⟨na2, nc2, ea2, ec2, rfl, -, hn2, -, he2⟩ := hY;simp only at hn1 he1 hn2 he2;obtain ⟨wn1, we1, ln1, le1⟩ := BZ hw1;simp only at wn1 we1 ln1 le1;obtain ⟨kn, hkn⟩ := nam nl.length;obtain ⟨ke, hke⟩ := nam el.length;rw [hkn, hke];rw [hkn] at ln1;rw [hke] at le1;obtain ⟨W0, u0, HW0, HU0, HSZ, HBE, hc1, hc2⟩ := zK w [.slice na1 kn nc1, .slice ea1 ke ec1] [.slice na2 kn nc2, .slice ea2 ke ec2] 58 58;have e0 := fun u => hc1 u 0 _ rfl
 have e1 := fun u => hc1 u 1 _ rfl
 have f0 := fun u => hc2 u 0 _ rfl
 have f1 := fun u => hc2 u 1 _ rfl
 clear hc1 hc2;have HRn1 := aa (fun (j : Nat) x (hx : nl[j]? = some x) => jK (C := w.heap.size + 2) (W0 := W0) hn1 (fun u cs x h => h.below (HBE.out u) hB) hB HBE.out hx);have HRn2 := aa (fun (j : Nat) x (hx : nl[j]? = some x) => jK (C := w.heap.size + 2) (W0 := W0) hn2 (fun u cs x h => h.below (HBE.out u) hB) hB HBE.out hx);have HRe1 := aa (fun (j : Nat) x (hx : el[j]? = some x) => jK (C := w.heap.size + 2) (W0 := W0) he1 (fun u cs x h => h.below (HBE.out u) hB) hB HBE.out hx);have HRe2 := aa (fun (j : Nat) x (hx : el[j]? = some x) => jK (C := w.heap.size + 2) (W0 := W0) he2 (fun u cs x h => h.below (HBE.out u) hB) hB HBE.out hx);have HM1 := aa hkn;have HM3 := aa hke;have HWN := aa wn1;have HWE := aa we1;clear hkn hke wn1 we1 hn1 hn2 he1 he2 hw1;have hi1 : ((kn : Int) != (kn : Int)) = false := by simp
 have hi2 : ((ke : Int) != (ke : Int)) = false := by simp
 go_enter Tryz.func53, Tryz.ntmps53;go_upto_region 1 with fail;rw [HW0.out, HU0.out];go_wp2_with fail
 go_loopw [5] (fun iv wr => ∃ (j : Nat) (u : aq (w.heap.size + 2) W0), iv = .int .i64 j /\ j <= kn /\ wr = u.w) (fun iv _ => kn - (intOf iv).toNat)
 case atStart => exact ⟨0, u0, rfl, Nat.zero_le _, rfl⟩
 case round =>
  obtain ⟨j, u, rfl, hj, rfl⟩ := hrel
  by_cases hlt : j < kn
  ·have hlt' : (j : Int) < kn := by omega
   have hj0 : (0 : Int) <= (j : Int) := by omega
   have hwi : IntKind.i64.wrap ((j : Int) + 1) = (j : Int) + 1 := IntWalk.i64_in _ (by omega);obtain ⟨x, hx⟩ := aB (l := nl) (j := j) (by have := HM1.out; omega);obtain ⟨b1, o1, cs1, rfl, hb1, g, hx1⟩ := HRn1.out j x hx;obtain ⟨b2, o2, cs2, rfl, hb2, f, hy1⟩ := HRn2.out j x hx;obtain ⟨a_labels1, c_labels1, a_keys1, c_keys1, a_vals1, c_vals1, rfl, -, r_labels1, -, r_keys1, -, r_vals1⟩ := hx1 u;obtain ⟨a_labels2, c_labels2, a_keys2, c_keys2, a_vals2, c_vals2, rfl, -, r_labels2, -, r_keys2, -, r_vals2⟩ := hy1 u;obtain ⟨x_labels, x_keys, x_vals⟩ := BX (HWN.out x (List.mem_of_getElem? hx));have g0 : ∀ u : aq (w.heap.size + 2) W0, u.w.cell? ⟨b1, o1 + j * 4, none⟩ = some _ := fun u => g u 0 _ rfl
   obtain ⟨g1, g2, g3⟩ := cf3 g;have f0 : ∀ u : aq (w.heap.size + 2) W0, u.w.cell? ⟨b2, o2 + j * 4, none⟩ = some _ := fun u => f u 0 _ rfl
   obtain ⟨f1, f2, f3⟩ := cf3 f;obtain ⟨p1, HX1, HB1, HK1, HS1, HT1⟩ := iW u HSZ.out [.string ⟨#[]⟩, .slice none 0 0, .slice none 0 0, .slice none 0 0] [.string x.var, .slice a_labels1 x.labels.length c_labels1, .slice a_keys1 x.keys.length c_keys1, .slice a_vals1 x.vals.length c_vals1] 85;obtain ⟨p2, HX2, HB2, HK2, HS2, HT2⟩ := iW p1 HSZ.out [.string ⟨#[]⟩, .slice none 0 0, .slice none 0 0, .slice none 0 0] [.string x.var, .slice a_labels2 x.labels.length c_labels2, .slice a_keys2 x.keys.length c_keys2, .slice a_vals2 x.vals.length c_vals2] 85;replace HK1 := aa (HK1.out.below HB2.out HK1.out.lt);obtain ⟨k0, k1, k2, k3⟩ := Cr HK1;obtain ⟨m0, m1, m2, m3⟩ := Cr HK2;have HBU : Hid (Below u.w.heap.size u.w p2.w) := aa (cD HB1.out HB2.out);have HBB : Hid (B <= u.w.heap.size) := aa (Nat.le_trans hB (HBE.out u).size);have HBC : Hid (B <= p2.w.heap.size) := aa (Nat.le_trans HBB.out HBU.out.size);have t0 : (x.var.toList == x.var.toList) = true := eK _;have HC1 := aa (fun v : aq p2.w.heap.size p2.w => aJ v (Nat.le_refl _) (du x.labels x.labels a_labels1 a_labels2 c_labels1 c_labels2 B v.w ((r_labels1.below HBU.out HBB.out).below v.below HBC.out) ((r_labels2.below HBU.out HBB.out).below v.below HBC.out) (Nat.le_trans HBC.out v.below.size) (by omega) (by omega)));rw [show decide (x.labels = x.labels) = true from decide_eq_true rfl] at HC1;have HC2 := aa (fun v : aq p2.w.heap.size p2.w => aJ v (Nat.le_refl _) (du x.keys x.keys a_keys1 a_keys2 c_keys1 c_keys2 B v.w ((r_keys1.below HBU.out HBB.out).below v.below HBC.out) ((r_keys2.below HBU.out HBB.out).below v.below HBC.out) (Nat.le_trans HBC.out v.below.size) (by omega) (by omega)));rw [show decide (x.keys = x.keys) = true from decide_eq_true rfl] at HC2;have HC3 := aa (fun v : aq p2.w.heap.size p2.w => aJ v (Nat.le_refl _) (mH x.vals (fun t _ => ob t) a_vals1 a_vals2 c_vals1 c_vals2 B v.w ((r_vals1.below HBU.out HBB.out (fun _ _ h => bK.below HBU.out HBB.out _ _ h)).below v.below HBC.out (fun _ _ h => bK.below v.below HBC.out _ _ h)) ((r_vals2.below HBU.out HBB.out (fun _ _ h => bK.below HBU.out HBB.out _ _ h)).below v.below HBC.out (fun _ _ h => bK.below v.below HBC.out _ _ h)) (Nat.le_trans HBC.out v.below.size) (by omega)));obtain ⟨v0, hv0⟩ := aq.start p2.w.heap.size p2.w;clear hx hx1 hy1 g f r_labels1 r_labels2 r_keys1 r_keys2 r_vals1 r_vals2 x_labels x_keys x_vals;go_upto_region 7 with (refine wpList_store_mid rfl 85 _ _ rfl u.w.heap.size 0 #[.string x.var, .slice a_labels1 x.labels.length c_labels1, .slice a_keys1 x.keys.length c_keys1, .slice a_vals1 x.vals.length c_vals1] rfl rfl HT1.out (by kernel_rfl) (by simp [Value.oneCell']) ?_);rw [HX1.out];go_upto_region 8 with (refine wpList_store_mid rfl 85 _ _ rfl p1.w.heap.size 0 #[.string x.var, .slice a_labels2 x.labels.length c_labels2, .slice a_keys2 x.keys.length c_keys2, .slice a_vals2 x.vals.length c_vals2] rfl rfl HT2.out (by kernel_rfl) (by simp [Value.oneCell']) ?_);rw [HX2.out, hv0];go_wp2_with (first | (go_at_call 52; (with_reducible refine (HC1.out _).mono ?_); rintro e w2 ⟨rfl, v1, rfl⟩) | (go_at_call 52; (with_reducible refine (HC2.out _).mono ?_); rintro e w2 ⟨rfl, v2, rfl⟩) | (go_at_call 50; (with_reducible refine (HC3.out _).mono ?_); rintro e w2 ⟨rfl, v3, rfl⟩));go_round;case rel => exact ⟨j + 1, uv p2 HSZ.out _, by go_num, by omega, rfl⟩
   case measure => simp [intOf]; omega
  ·have hlt' : ¬ (j : Int) < kn := by omega
   go_wp2_with fail;clear hj hlt hlt'
   go_loopw [8] (fun iv wr => ∃ (j : Nat) (u : aq (w.heap.size + 2) W0), iv = .int .i64 j /\ j <= ke /\ wr = u.w) (fun iv _ => ke - (intOf iv).toNat)
   case atStart => exact ⟨0, u, rfl, Nat.zero_le _, rfl⟩
   case round =>
    obtain ⟨j, u, rfl, hj, rfl⟩ := hrel
    by_cases hlt : j < ke
    ·have hlt' : (j : Int) < ke := by omega
     have hj0 : (0 : Int) <= (j : Int) := by omega
     have hwi : IntKind.i64.wrap ((j : Int) + 1) = (j : Int) + 1 := IntWalk.i64_in _ (by omega);obtain ⟨x, hx⟩ := aB (l := el) (j := j) (by have := HM3.out; omega);obtain ⟨b1, o1, cs1, rfl, hb1, g, hx1⟩ := HRe1.out j x hx;obtain ⟨b2, o2, cs2, rfl, hb2, f, hy1⟩ := HRe2.out j x hx;obtain ⟨a_keys1, c_keys1, a_vals1, c_vals1, rfl, -, -, r_keys1, -, r_vals1⟩ := hx1 u;obtain ⟨a_keys2, c_keys2, a_vals2, c_vals2, rfl, -, -, r_keys2, -, r_vals2⟩ := hy1 u;obtain ⟨x_keys, x_vals⟩ := BY (HWE.out x (List.mem_of_getElem? hx));have g0 : ∀ u : aq (w.heap.size + 2) W0, u.w.cell? ⟨b1, o1 + j * 5, none⟩ = some _ := fun u => g u 0 _ rfl
     obtain ⟨g1, g2, g3, g4⟩ := cf4 g;have f0 : ∀ u : aq (w.heap.size + 2) W0, u.w.cell? ⟨b2, o2 + j * 5, none⟩ = some _ := fun u => f u 0 _ rfl
     obtain ⟨f1, f2, f3, f4⟩ := cf4 f;obtain ⟨p1, HX1, HB1, HK1, HS1, HT1⟩ := iW u HSZ.out [.string ⟨#[]⟩, .string ⟨#[]⟩, .int .i64 0, .slice none 0 0, .slice none 0 0] [.string x.var, .string x.ty, .int .i64 x.dir, .slice a_keys1 x.keys.length c_keys1, .slice a_vals1 x.vals.length c_vals1] 87;obtain ⟨p2, HX2, HB2, HK2, HS2, HT2⟩ := iW p1 HSZ.out [.string ⟨#[]⟩, .string ⟨#[]⟩, .int .i64 0, .slice none 0 0, .slice none 0 0] [.string x.var, .string x.ty, .int .i64 x.dir, .slice a_keys2 x.keys.length c_keys2, .slice a_vals2 x.vals.length c_vals2] 87;replace HK1 := aa (HK1.out.below HB2.out HK1.out.lt);obtain ⟨k0, k1, k2, k3, k4⟩ := Cs HK1;obtain ⟨m0, m1, m2, m3, m4⟩ := Cs HK2;have HBU : Hid (Below u.w.heap.size u.w p2.w) := aa (cD HB1.out HB2.out);have HBB : Hid (B <= u.w.heap.size) := aa (Nat.le_trans hB (HBE.out u).size);have HBC : Hid (B <= p2.w.heap.size) := aa (Nat.le_trans HBB.out HBU.out.size);have t0 : (x.var.toList == x.var.toList) = true := eK _;have t1 : (x.ty.toList == x.ty.toList) = true := eK _;have t2 : (x.dir == x.dir) = true := eK _;have t2' : (x.dir != x.dir) = false := ed _;have HC3 := aa (fun v : aq p2.w.heap.size p2.w => aJ v (Nat.le_refl _) (du x.keys x.keys a_keys1 a_keys2 c_keys1 c_keys2 B v.w ((r_keys1.below HBU.out HBB.out).below v.below HBC.out) ((r_keys2.below HBU.out HBB.out).below v.below HBC.out) (Nat.le_trans HBC.out v.below.size) (by omega) (by omega)));rw [show decide (x.keys = x.keys) = true from decide_eq_true rfl] at HC3;have HC4 := aa (fun v : aq p2.w.heap.size p2.w => aJ v (Nat.le_refl _) (mH x.vals (fun t _ => ob t) a_vals1 a_vals2 c_vals1 c_vals2 B v.w ((r_vals1.below HBU.out HBB.out (fun _ _ h => bK.below HBU.out HBB.out _ _ h)).below v.below HBC.out (fun _ _ h => bK.below v.below HBC.out _ _ h)) ((r_vals2.below HBU.out HBB.out (fun _ _ h => bK.below HBU.out HBB.out _ _ h)).below v.below HBC.out (fun _ _ h => bK.below v.below HBC.out _ _ h)) (Nat.le_trans HBC.out v.below.size) (by omega)));obtain ⟨v0, hv0⟩ := aq.start p2.w.heap.size p2.w;clear hx hx1 hy1 g f r_keys1 r_keys2 r_vals1 r_vals2 x_keys x_vals;go_upto_region 14 with (refine wpList_store_mid rfl 87 _ _ rfl u.w.heap.size 0 #[.string x.var, .string x.ty, .int .i64 x.dir, .slice a_keys1 x.keys.length c_keys1, .slice a_vals1 x.vals.length c_vals1] rfl rfl HT1.out (by kernel_rfl) (by simp [Value.oneCell']) ?_);rw [HX1.out];go_upto_region 15 with (refine wpList_store_mid rfl 87 _ _ rfl p1.w.heap.size 0 #[.string x.var, .string x.ty, .int .i64 x.dir, .slice a_keys2 x.keys.length c_keys2, .slice a_vals2 x.vals.length c_vals2] rfl rfl HT2.out (by kernel_rfl) (by simp [Value.oneCell']) ?_);rw [HX2.out, hv0];go_wp2_with (first | (go_at_call 52; (with_reducible refine (HC3.out _).mono ?_); rintro e w2 ⟨rfl, v3, rfl⟩) | (go_at_call 50; (with_reducible refine (HC4.out _).mono ?_); rintro e w2 ⟨rfl, v4, rfl⟩));go_round;case rel => exact ⟨j + 1, uv p2 HSZ.out _, by go_num, by omega, rfl⟩
     case measure => simp [intOf]; omega
    ·have hlt' : ¬ (j : Int) < ke := by omega
     go_wp2_with fail;go_ret;exact ⟨rfl, HBE.out _⟩
end Go.Proofs.YteljlahcdipilaaGreat

/- Parts Q7, Q8, Q10 of this seat (pruned, scripts that are alike kept once as default arguments: q1, q2, ..). Conditions: each says its own. -/
import Derived.Test.YteljlahcdipilaaGreatG23
import Derived.Test.YteljlahcdipilaaGreatG24
set_option linter.unusedSimpArgs false
set_option linter.unusedVariables false
set_option maxRecDepth 1000000
set_option maxHeartbeats 64000000
namespace Go.Proofs.YteljlahcdipilaaGreat
open Go.RowKit Go.Shelf
theorem Mv.blk {bp k b : Nat} {w w' : World} {cs : List Value} {t : TypeId} (hm : Mv bp k w w') (hb : ae w b cs t) (hne : b ≠ bp) : ae w' b cs t :=
  hb.of_heap ((Below.block hm b hb.lt).trans (Below.heap_setCell w ⟨bp, 1, none⟩ _ b hne))
theorem ak {b q : Nat} (hq : q ≠ b) : ∀ (vs : List Value) (o : Nat) (w : World), (w.setCells b o vs).heap[q]? = w.heap[q]?
  | [], _, _ => rfl
  | v :: r, o, w => by
    show (World.setCells (w.setCell ⟨b, o, none⟩ v) b (o + 1) r).heap[q]? = _;rw [ak hq r (o + 1)]; exact Below.heap_setCell _ _ _ _ hq
theorem aQ {b : Nat} : ∀ (vs : List Value) (o : Nat) (w : World), (w.setCells b o vs).heap.size = w.heap.size
  | [], _, _ => rfl
  | v :: r, o, w => by
    show (World.setCells (w.setCell ⟨b, o, none⟩ v) b (o + 1) r).heap.size = _;rw [aQ r (o + 1)]; exact World.size_setCell _ _ _
theorem HG.sets {P : World -> Prop} {S : Nat -> Prop} {w : World} (h : HG P S w) {b : Nat} (o : Nat) (vs : List Value) (hb : ¬ S b) : HG P S (w.setCells b o vs) := h.same fun q hS => ak (fun e => hb (by rw [<- show q = b from e]; exact hS)) _ _ _
theorem fE {S : Nat -> Prop} {g : Nat} {w5 : World} {cs : List Value} {t : Ex} {op : Int} {nm : ByteArray} (hX : HX S w5 cs t) (hb : ae w5 g cs 66) (ho : bJ op) (hl : cs.length = 10) : HX (fun b => S b \/ b = g) w5 (Ci op nm (some ⟨g, 0, none⟩) 1) (mE op nm [t]) :=
  ⟨fun b h => by exact h.elim (hX.1 b) (fun e => by rw [e]; exact hb.lt), fun w' h2 => by
    have hbl := hb.of_heap (h2 g (.inr rfl));have hr : cg (bK w'.heap.size w') 10 w'.heap.size w' (some ⟨g, 0, none⟩) [t] :=
      kX (css := [cs]) hbl (by simp) hbl.lt (fW.cons (hX.2 w' fun b hb => h2 b (.inl hb)) hl fW.nil)
    exact pN (az := [t]) ho ⟨⟨Nat.le_refl _, (by decide : (1 : Nat) <= 9223372036854775807)⟩, fun h => by cases h⟩ hr⟩
def zX : List Value := [.int .i64 0, .string ⟨#[]⟩, .int .i64 0, .bool false, .int .i64 0, .string ⟨#[]⟩, .slice none 0 0, .slice none 0 0, .slice none 0 0, .slice none 0 0]
theorem Sq247412 {P : Prop} (h : P := by
 have hX0 := hX;obtain ⟨te, hte⟩ := nam t;rw [hte] at hX0 ⊢;obtain ⟨op, nm, v, ns, az⟩ := t;obtain ⟨vk, vb, vi, vs, vl, vks, la, lc, ka, kc, na, nc, xa, xc, -, rfl, -⟩ := hX.is.cells;clear hX;generalize vl.length = y1 at *;generalize vks.length = y2 at *;generalize ns.length = y3 at *;generalize az.length = y4 at *;obtain ⟨W1, hW1⟩ : ∃ W1, w.alloc (.cells #[.int .i64 op, .string nm, .int .i64 vk, .bool vb, .int .i64 vi, .string vs, .slice la y1 lc, .slice ka y2 kc, .slice na y3 nc, .slice xa y4 xc] 66) = W1 := ⟨_, rfl⟩;obtain ⟨W0, hW0⟩ : ∃ W0, W1.alloc (.cells ad 66) = W0 := ⟨_, rfl⟩;have hs1 : W1.heap.size = w.heap.size + 1 := by rw [<- hW1]; simp
 have hbe : Below w.heap.size w W0 := by rw [<- hW0, <- hW1]; exact ((Below.refl _ _).alloc (Nat.le_refl _) _).alloc (by simp) _
 have hk1 : ae W0 w.heap.size [.int .i64 op, .string nm, .int .i64 vk, .bool vb, .int .i64 vi, .string vs, .slice la y1 lc, .slice ka y2 kc, .slice na y3 nc, .slice xa y4 xc] 66 := by rw [<- hW0, <- hW1]; exact (ae.new w _ _).alloc _
 have hk2 : ae W0 (w.heap.size + 1) zX 66 := by rw [<- hW0, <- hs1]; exact ae.new W1 _ _
 have hlt := h.lt
 first
 |(
  guard_hyp z247412b
  have HN := aa (nO bp a cap L k x 2 fm W0 (h.below hbe) hx hn);have HM := aa (fun w2 (hb : Below W0.heap.size W0 w2) => gu bp a cap L k x eD w2 ((h.below hbe).below hb) hx hy))
 |(
  have HN := aa (kU bp a cap L k x 2 fm W0 (h.below hbe) hx hn);have HM := aa (fun w2 (hb : Mv bp (k + 1) W0 w2) => gu bp a cap L (k + 1) y eD w2 ((h.below hbe).mv hb) hy0 hy))
 obtain ⟨HK1, HK2, HBE⟩ := hd3 hk1 hk2 hbe;have HW : Hid ((w.alloc (.cells #[.int .i64 op, .string nm, .int .i64 vk, .bool vb, .int .i64 vi, .string vs, .slice la y1 lc, .slice ka y2 kc, .slice na y3 nc, .slice xa y4 xc] 66)).alloc (.cells ad 66) = W0) := aa (by rw [hW1, hW0]);have HX0 := aa hX0
 first
 | (guard_hyp z247412a; clear hW1 hW0 hk1 hk2 hbe hs1 h hx hn hy hy0 hte hX0)
 | (clear hW1 hW0 hk1 hk2 hbe hs1 h hx hn hy hte hX0)
 go_enter Tryz.func115, Tryz.ntmps115;go_upto_region 1 with fail;rw [HW.out];go_wp2_with (first | (go_at_call 103; refine HN.out.mono ?_; rintro e w2 ⟨rfl, hb2⟩) | (go_at_call 98; refine (HM.out _ hb2).mono ?_; rintro e w3 ⟨rfl, hm3⟩; refine af.out ?_));refine af.mk ?_
 first
 | (guard_hyp z247412a; have hm := Mv.trans hb2 hm3)
 | (have hm := Mv.of hb2 hm3)
 have bk1 := hm.blk HK1.out (by omega);have bk2 := hm.blk HK2.out (by omega);have e0 := bk1.cell (i := 0) rfl;have e1 := bk1.cell (i := 1) rfl;have e2 := bk1.cell (i := 2) rfl;have e3 := bk1.cell (i := 3) rfl;have e4 := bk1.cell (i := 4) rfl;have e5 := bk1.cell (i := 5) rfl;have e6 := bk1.cell (i := 6) rfl;have e7 := bk1.cell (i := 7) rfl;have e8 := bk1.cell (i := 8) rfl;have e9 := bk1.cell (i := 9) rfl;have bk3 := bk2.alloc (.cells #[.int .i64 op, .string nm, .int .i64 vk, .bool vb, .int .i64 vi, .string vs, .slice la y1 lc, .slice ka y2 kc, .slice na y3 nc, .slice xa y4 xc] 66);have hT := ah bk3 0 10 (by decide);have HB3 := aa bk3;have HB1 := aa bk1;have HMM := aa hm;clear bk1 bk2 bk3 hm
 first
 |(
  guard_hyp z247412a
  go_wp2_with (refine wpList_store_mid rfl 66 _ _ rfl (w.heap.size + 1) 0 #[.int .i64 12, .string ⟨#[]⟩, .int .i64 0, .bool false, .int .i64 0, .string ⟨#[]⟩, .slice none 0 0, .slice none 0 0, .slice none 0 0, .slice (some ⟨w3.heap.size, 0, none⟩) 1 1] rfl rfl hT (by kernel_rfl) (by simp [Value.oneCell']) ?_);have hB4 := HB3.out.setCells [.int .i64 12, .string ⟨#[]⟩, .int .i64 0, .bool false, .int .i64 0, .string ⟨#[]⟩, .slice none 0 0, .slice none 0 0, .slice none 0 0, .slice (some ⟨w3.heap.size, 0, none⟩) 1 1] 0)
 |(
  go_wp2_with (refine wpList_store_mid rfl 66 _ _ rfl (w.heap.size + 1) 0 #[.int .i64 11, .string ⟨#[]⟩, .int .i64 0, .bool false, .int .i64 0, .string ⟨#[]⟩, .slice none 0 0, .slice none 0 0, .slice none 0 0, .slice (some ⟨w3.heap.size, 0, none⟩) 1 1] rfl rfl hT (by kernel_rfl) (by simp [Value.oneCell']) ?_);have hB4 := HB3.out.setCells [.int .i64 11, .string ⟨#[]⟩, .int .i64 0, .bool false, .int .i64 0, .string ⟨#[]⟩, .slice none 0 0, .slice none 0 0, .slice none 0 0, .slice (some ⟨w3.heap.size, 0, none⟩) 1 1] 0)
 refine bodyPost_ret (results_cell_row (by rfl) _ _ (w.heap.size + 1) 66 _ (0, 0) _ (by rfl) hB4 Tryz.underlying66 rfl (by kernel_rfl)) rfl ?_;have hM3 := Mv.of HBE.out HMM.out
 first
 | (guard_hyp z247412a; have hM5 := aN (b := w.heap.size + 1) (by omega) [.int .i64 12, .string ⟨#[]⟩, .int .i64 0, .bool false, .int .i64 0, .string ⟨#[]⟩, .slice none 0 0, .slice none 0 0, .slice none 0 0, .slice (some ⟨w3.heap.size, 0, none⟩) 1 1] 0 _ (Below.alloc hM3 hM3.size (.cells #[.int .i64 op, .string nm, .int .i64 vk, .bool vb, .int .i64 vi, .string vs, .slice la y1 lc, .slice ka y2 kc, .slice na y3 nc, .slice xa y4 xc] 66)))
 | (have hM5 := aN (b := w.heap.size + 1) (by omega) [.int .i64 11, .string ⟨#[]⟩, .int .i64 0, .bool false, .int .i64 0, .string ⟨#[]⟩, .slice none 0 0, .slice none 0 0, .slice none 0 0, .slice (some ⟨w3.heap.size, 0, none⟩) 1 1] 0 _ (Below.alloc hM3 hM3.size (.cells #[.int .i64 op, .string nm, .int .i64 vk, .bool vb, .int .i64 vi, .string vs, .slice la y1 lc, .slice ka y2 kc, .slice na y3 nc, .slice xa y4 xc] 66)))
 have hsz := HB1.out.lt;have hsz3 := HBE.out.size;have hw3 : w.heap.size + 1 < w3.heap.size := Nat.lt_of_lt_of_le HK2.out.lt (Mv.size HMM.out);refine ⟨_, _, rfl, fE (g := w3.heap.size) (nm := ⟨#[]⟩) (HX0.out.mv hM5 hp) ((ae.new w3 _ _).of_heap (ak (by omega) _ 0 _)) (by unfold bJ; omega) rfl, by omega, hM5⟩) : P := h
theorem ww (bp : Nat) (a : Option Addr) (cap : Nat) (L : List (am × Nat)) (k : Nat) (x : am × Nat) (t : Ex) (cs : List Value) (w : World) (h : Ps bp a cap L k w) (hx : L[k]? = some x) (hn : ck 2 fm (aA L k) = false) (hy : ck 2 eD (aA L k) = true) (S : Nat -> Prop) (hX : HX S w cs t) (hp : ¬ S bp) :
    Calls Tryz.prog 115 #[.pointer (some ⟨bp, 0, none⟩), .agg cs.toArray] w fun e w' => ∃ ds g, e = .returned (.agg (List.toArray ds)) /\ HX (fun b => S b \/ b = g) w' ds (mE 11 ⟨#[]⟩ [t]) /\ w.heap.size <= g /\ Mv bp (k + 1) w w' := by
 have z247412b := trivial;exact Sq247412
theorem Mv.trans {bp j k : Nat} {w w1 w2 : World} (h1 : Mv bp j w w1) (h2 : Mv bp k w1 w2) : Mv bp k w w2 := by
 have h3 := ir (bp := bp) (v := .int .i64 k) h1;rw [tU] at h3;exact Below.trans h3 (Below.mono h2 (by have := Mv.size h1; exact this))
theorem wy (bp : Nat) (a : Option Addr) (cap : Nat) (L : List (am × Nat)) (k : Nat) (x : am × Nat) (t : Ex) (cs : List Value) (w : World) (h : Ps bp a cap L k w) (hx : L[k]? = some x) (hn : ck 2 fm (aA L k) = true) (y : am × Nat) (hy0 : L[k + 1]? = some y) (hy : ck 2 eD (aA L (k + 1)) = true) (S : Nat -> Prop) (hX : HX S w cs t) (hp : ¬ S bp) :
    Calls Tryz.prog 115 #[.pointer (some ⟨bp, 0, none⟩), .agg cs.toArray] w fun e w' => ∃ ds g, e = .returned (.agg (List.toArray ds)) /\ HX (fun b => S b \/ b = g) w' ds (mE 12 ⟨#[]⟩ [t]) /\ w.heap.size <= g /\ Mv bp (k + 1 + 1) w w' := by
 have z247412a := trivial;exact Sq247412
theorem Sq383872 {P : Prop} (h : P := by
 have hX0 := hX;obtain ⟨te, hte⟩ := nam t;rw [hte] at hX0;obtain ⟨op, nm, v, ns, az⟩ := t;obtain ⟨vk, vb, vi, vs, vl, vks, la, lc, ka, kc, na, nc, xa, xc, -, rfl, -⟩ := hX.is.cells;clear hX;generalize vl.length = y1 at *;generalize vks.length = y2 at *;generalize ns.length = y3 at *;generalize az.length = y4 at *;obtain ⟨W1, hW1⟩ : ∃ W1, w.alloc (.cells #[.int .i64 op, .string nm, .int .i64 vk, .bool vb, .int .i64 vi, .string vs, .slice la y1 lc, .slice ka y2 kc, .slice na y3 nc, .slice xa y4 xc] 66) = W1 := ⟨_, rfl⟩;obtain ⟨W0, hW0⟩ : ∃ W0, W1.alloc (.cells ad 66) = W0 := ⟨_, rfl⟩;have hs1 : W1.heap.size = w.heap.size + 1 := by rw [<- hW1]; simp
 have hbe : Below w.heap.size w W0 := by rw [<- hW0, <- hW1]; exact ((Below.refl _ _).alloc (Nat.le_refl _) _).alloc (by simp) _
 have hk1 : ae W0 w.heap.size [.int .i64 op, .string nm, .int .i64 vk, .bool vb, .int .i64 vi, .string vs, .slice la y1 lc, .slice ka y2 kc, .slice na y3 nc, .slice xa y4 xc] 66 := by rw [<- hW0, <- hW1]; exact (ae.new w _ _).alloc _
 have hk2 : ae W0 (w.heap.size + 1) zX 66 := by rw [<- hW0, <- hs1]; exact ae.new W1 _ _
 have hlt := h.lt
 first
 |(
  guard_hyp z383872a
  have HN := aa (nO bp a cap L k x 2 fm W0 (h.below hbe) hx hn);have HM := aa (fun w2 (hb : Below W0.heap.size W0 w2) => gW bp a cap L k x eD w2 ((h.below hbe).below hb) hx hy))
 |(
  have HN := aa (kU bp a cap L k x 2 fm W0 (h.below hbe) hx hn);have HM := aa (fun w2 (hb : Mv bp (k + 1) W0 w2) => gW bp a cap L (k + 1) y eD w2 ((h.below hbe).mv hb) hy0 hy))
 obtain ⟨HK1, HK2, HBE⟩ := hd3 hk1 hk2 hbe;have HW : Hid ((w.alloc (.cells #[.int .i64 op, .string nm, .int .i64 vk, .bool vb, .int .i64 vi, .string vs, .slice la y1 lc, .slice ka y2 kc, .slice na y3 nc, .slice xa y4 xc] 66)).alloc (.cells ad 66) = W0) := aa (by rw [hW1, hW0]);have HX0 := aa hX0
 first
 | (guard_hyp z383872b; clear hW1 hW0 hk1 hk2 hbe hs1 h hx hn hy hy0 hte hX0)
 | (clear hW1 hW0 hk1 hk2 hbe hs1 h hx hn hy hte hX0)
 go_enter Tryz.func115, Tryz.ntmps115;go_upto_region 1 with fail;rw [HW.out];go_wp2_with (first | (go_at_call 103; refine HN.out.mono ?_; rintro e w2 ⟨rfl, hb2⟩) | (go_at_call 98; refine (HM.out _ hb2).mono ?_; rintro e w3 ⟨rfl, hm3⟩ ))
 first
 | (guard_hyp z383872a; exact ⟨rfl, rfl, HBE.out.trans ((hb2.trans (hm3.mono hb2.size)).mono HBE.out.size)⟩)
 | (exact ⟨rfl, rfl, Mv.of HBE.out (Mv.below hb2 hm3)⟩)) : P := h
theorem wA (bp : Nat) (a : Option Addr) (cap : Nat) (L : List (am × Nat)) (k : Nat) (x : am × Nat) (t : Ex) (cs : List Value) (w : World) (h : Ps bp a cap L k w) (hx : L[k]? = some x) (hn : ck 2 fm (aA L k) = false) (hy : ck 2 eD (aA L k) = false) (S : Nat -> Prop) (hX : HX S w cs t) (hp : ¬ S bp) :
    Calls Tryz.prog 115 #[.pointer (some ⟨bp, 0, none⟩), .agg cs.toArray] w fun e w' => e = .panicked (eX x.2) /\ Below w.heap.size w w' := by
 have z383872a := trivial;exact Sq383872
theorem tX (bp : Nat) (a : Option Addr) (cap : Nat) (L : List (am × Nat)) (k : Nat) (x : am × Nat) (t : Ex) (cs : List Value) (w : World) (h : Ps bp a cap L k w) (hx : L[k]? = some x) (hn : ck 2 fm (aA L k) = true) (y : am × Nat) (hy0 : L[k + 1]? = some y) (hy : ck 2 eD (aA L (k + 1)) = false) (S : Nat -> Prop) (hX : HX S w cs t) (hp : ¬ S bp) :
    Calls Tryz.prog 115 #[.pointer (some ⟨bp, 0, none⟩), .agg cs.toArray] w fun e w' => e = .panicked (eX y.2) /\ Mv bp (k + 1) w w' := by
 have z383872b := trivial;exact Sq383872
def Tk (L : List (am × Nat)) : Prop := ∀ (k : Nat) x, L[k]? = some x -> bJ x.1.n /\ (x.1.k ≠ 6 -> k + 1 < L.length)
theorem ar (L : List (am × Nat)) (k : Nat) : (aA L k).tail = aA L (k + 1) := by
 unfold aA;rw [<- List.map_tail, List.tail_drop]
theorem eT {L : List (am × Nat)} {k : Nat} {x : am × Nat} (h : L[k]? = some x) : nx (aA L k) = x.1 := by rw [pE h]; rfl
theorem dh {L : List (am × Nat)} {k : Nat} (h : k < L.length) : ∃ y, L[k]? = some y := ⟨_, List.getElem?_eq_getElem h⟩
theorem Tk.step {L : List (am × Nat)} (hT : Tk L) {k : Nat} (hk : k < L.length) (h : (nx (aA L k)).k ≠ 6) : k + 1 < L.length := by
 obtain ⟨y, hy⟩ := dh hk;rw [eT hy] at h;exact (hT k y hy).2 h
theorem fX {K : Nat} {s : List UInt8} {l : List am} (h : ck K s l = true) : (nx l).k = K /\ (nx l).t = s := by simpa [ck] using h
theorem Tk.next {L : List (am × Nat)} (hT : Tk L) {k K : Nat} {s : List UInt8} (hk : k < L.length) (h : ck K s (aA L k) = true) (hK : K ≠ 6) : k + 1 < L.length := hT.step hk (by rw [(fX h).1]; exact hK)
theorem wC {w : World} {b o : Nat} {v : Value} (h : w.cell? ⟨b, o, none⟩ = some v) : w.setCell ⟨b, o, none⟩ v = w := by
 obtain ⟨heap, tape, drawn, os, out⟩ := w;simp only [World.setCell, World.mk.injEq, and_true];refine Array.ext (by simp) (fun i h1 h2 => ?_);rw [Array.getElem_modify]
 split
 ·rename_i e
  have e : b = i := e;subst e;simp only [World.cell?] at h;rw [Array.getElem?_eq_getElem h2] at h;cases hc : heap[b]'h2 with
  | cells c t f =>
   rw [hc] at h;simp only [Option.isSome_none, Bool.false_eq_true, if_false] at h ⊢;obtain ⟨h3, h4⟩ := Array.getElem?_eq_some_iff.1 h;rw [<- h4];congr 1;refine Array.ext (by simp) (fun q q1 q2 => ?_);rw [Array.getElem_setIfInBounds]
   split
   ·rename_i e; subst e; rfl
   ·rfl
  | _ => rfl
 ·rfl
theorem Mv.refl {bp : Nat} {a : Option Addr} {cap : Nat} {L : List (am × Nat)} {k : Nat} {w : World} (h : Ps bp a cap L k w) : Mv bp k w w := by
 unfold Mv;rw [wC h.c1];exact Below.refl _ _
structure St (bp : Nat) (a : Option Addr) (cap : Nat) (L : List (am × Nat)) (w : World) (k : Nat) (u : World) : Prop where
  p0 : ∃ k0, Ps bp a cap L k0 w
  mv : Mv bp k w u
section
variable {bp : Nat} {a : Option Addr} {cap : Nat} {L : List (am × Nat)} {w u u' : World} {k k' : Nat}
theorem St.start (h : Ps bp a cap L k w) : St bp a cap L w k w := ⟨⟨k, h⟩, Mv.refl h⟩
theorem St.ps (h : St bp a cap L w k u) : Ps bp a cap L k u := h.p0.elim fun _ p => p.mv h.mv
theorem St.ln (h : St bp a cap L w k u) : L.length <= 4097 := h.p0.elim fun _ p => p.ln
theorem St.size (h : St bp a cap L w k u) : w.heap.size <= u.heap.size := h.mv.size
theorem St.call (h : St bp a cap L w k u) (hm : Mv bp k' u u') : St bp a cap L w k' u' := ⟨h.p0, Mv.trans h.mv hm⟩
theorem St.alloc (h : St bp a cap L w k u) (o : Obj) : St bp a cap L w k (u.alloc o) := ⟨h.p0, Below.alloc h.mv h.size o⟩
theorem St.set (h : St bp a cap L w k u) {b : Nat} (hb : w.heap.size <= b) (j : Nat) (v : Value) : St bp a cap L w k (u.setCell ⟨b, j, none⟩ v) := ⟨h.p0, Below.setCell h.mv hb v⟩
theorem St.sets (h : St bp a cap L w k u) {b : Nat} (hb : w.heap.size <= b) (o : Nat) (vs : List Value) : St bp a cap L w k (u.setCells b o vs) := ⟨h.p0, aN hb vs o _ h.mv⟩
theorem St.grown (h : St bp a cap L w k u) {r : Option Nat} (hg : u.grownBy u' r) (hr : ∀ q, r = some q -> w.heap.size <= q) : St bp a cap L w k u' := ⟨h.p0, Below.grown h.mv hg h.size hr⟩
theorem St.drew (h : St bp a cap L w k u) : St bp a cap L w k u.drew := ⟨h.p0, Below.drew h.mv⟩
end
def lE (bp : Nat) (L : List (am × Nat)) (w : World) (r : List am) (e : Ending) (w' : World) : Prop := ∃ k y j, L[k]? = some y /\ r = aA L k /\ e = .panicked (eX y.2) /\ Mv bp j w w'
def PR (Rt : V -> Value -> World -> World -> Prop) (bp : Nat) (L : List (am × Nat)) (k : Nat) (w : World) (x : Pr) (e : Ending) (w' : World) : Prop := match x with
  | .ok v r => ∃ k' val, k <= k' /\ k' < L.length /\ r = aA L k' /\ e = .returned val /\ Rt v val w w' /\ Mv bp k' w w'
  | .bad r => lE bp L w r e w'
def gA (v : V) (val : Value) (w w' : World) : Prop := ∃ S ds, val = .agg (List.toArray ds) /\ (∀ b, S b -> w.heap.size <= b) /\ HX S w' ds v.ex
def cL (F : FuncId) (args : List Value) (g : G) (Rt : V -> Value -> World -> World -> Prop) (f : Nat) : Prop := ∀ (bp : Nat) (a : Option Addr) (cap : Nat) (L : List (am × Nat)) (k : Nat) (w : World) (x : Pr), Ps bp a cap L k w -> Tk L -> k < L.length -> run f g (aA L k) = some x ->
  Calls Tryz.prog F (List.toArray (.pointer (some ⟨bp, 0, none⟩) :: args)) w (PR Rt bp L k w x)
theorem kY {o : O} {K : V -> List am -> O} {x : Pr} (h : bnd o K = some x) : ∃ p, o = some p /\ bnd (some p) K = some x := by
 cases o with
 | none => cases h
 | some p => exact ⟨p, rfl, h⟩
section
variable {bp : Nat} {a : Option Addr} {cap : Nat} {L : List (am × Nat)} {w u : World} {k : Nat}
theorem cL.go {F : FuncId} {args : List Value} {g : G} {Rt : V -> Value -> World -> World -> Prop} {f : Nat} (h : cL F args g Rt f) (s : St bp a cap L w k u) (hT : Tk L) (hk : k < L.length) {x : Pr} (hr : run f g (aA L k) = some x) :
    Calls Tryz.prog F (List.toArray (.pointer (some ⟨bp, 0, none⟩) :: args)) u (PR Rt bp L k u x) := h bp a cap L k u x s.ps hT hk hr
theorem cp (s : St bp a cap L w k u) (hk : k < L.length) {K : Nat} {t : List UInt8} (hb : ck K t (aA L k) = true) :
    Calls Tryz.prog 103 #[.pointer (some ⟨bp, 0, none⟩), .int .i64 K, .string (ai t)] u fun e u' => e = .returned (.bool true) /\ Mv bp (k + 1) u u' := by
 obtain ⟨y, hy⟩ := dh hk;exact kU bp a cap L k y K t u s.ps hy hb
theorem cq (s : St bp a cap L w k u) (hk : k < L.length) {K : Nat} {t : List UInt8} (hb : ck K t (aA L k) = false) :
    Calls Tryz.prog 103 #[.pointer (some ⟨bp, 0, none⟩), .int .i64 K, .string (ai t)] u fun e u' => e = .returned (.bool false) /\ Mv bp k u u' := by
 obtain ⟨y, hy⟩ := dh hk;exact (nO bp a cap L k y K t u s.ps hy hb).mono fun e u' h => ⟨h.1, Mv.below (Mv.refl s.ps) h.2⟩
theorem eJ (s : St bp a cap L w k u) (hk : k < L.length) {t : List UInt8} {b : Bool} (hb : ck 5 t (aA L k) = b) :
    Calls Tryz.prog 121 #[.pointer (some ⟨bp, 0, none⟩), .string (ai t)] u fun e u' => e = .returned (.bool b) /\ Mv bp k u u' := by
 obtain ⟨y, hy⟩ := dh hk;rw [<- hb];exact (jE bp a cap L k y t u s.ps hy).mono fun e u' h => ⟨h.1, Mv.below (Mv.refl s.ps) h.2⟩
theorem fM (s : St bp a cap L w k u) (hk : k < L.length) {t : List UInt8} {b : Bool} (hb : ck 2 t (aA L k) = b) :
    Calls Tryz.prog 112 #[.pointer (some ⟨bp, 0, none⟩), .string (ai t)] u fun e u' => e = .returned (.bool b) /\ Mv bp k u u' := by
 obtain ⟨y, hy⟩ := dh hk;rw [<- hb];exact (jF bp a cap L k y t u s.ps hy).mono fun e u' h => ⟨h.1, Mv.below (Mv.refl s.ps) h.2⟩
theorem lE.here {y : am × Nat} {e : Ending} {u' : World} (s : St bp a cap L w k u) (hy : L[k]? = some y) (h : e = .panicked (eX y.2) /\ Below u.heap.size u u') : lE bp L u (aA L k) e u' :=
  ⟨k, y, k, hy, rfl, h.1, Mv.below (Mv.refl s.ps) h.2⟩
theorem yP (s : St bp a cap L w k u) (hT : Tk L) (hk : k < L.length) (t : List UInt8) :
    Calls Tryz.prog 118 #[.pointer (some ⟨bp, 0, none⟩), .string (ai t)] u fun e u' =>
      (((∀ K, must (ck 5 t (aA L k)) (aA L k) K = K (aA L (k + 1))) /\ k + 1 < L.length) /\ e = .returned (.tuple #[]) /\ Mv bp (k + 1) u u') \/ ((∀ K, must (ck 5 t (aA L k)) (aA L k) K = some (.bad (aA L k))) /\ lE bp L u (aA L k) e u') := by
 obtain ⟨y, hy⟩ := dh hk;cases hb : ck 5 t (aA L k) with
 | true => exact (nP bp a cap L k y t u s.ps hy hb).mono fun e u' h => .inl ⟨⟨fun K => by simp only [must, if_true, ar], hT.next hk hb (by decide)⟩, h⟩
 | false => exact (pG bp a cap L k y t u s.ps hy hb).mono fun e u' h => .inr ⟨fun K => by simp [must], lE.here s hy h⟩
theorem wD (s : St bp a cap L w k u) (hT : Tk L) (hk : k < L.length) (t : List UInt8) :
    Calls Tryz.prog 98 #[.pointer (some ⟨bp, 0, none⟩), .string (ai t)] u fun e u' =>
      (((∀ K, must (ck 2 t (aA L k)) (aA L k) K = K (aA L (k + 1))) /\ k + 1 < L.length) /\ e = .returned (.tuple #[]) /\ Mv bp (k + 1) u u') \/ ((∀ K, must (ck 2 t (aA L k)) (aA L k) K = some (.bad (aA L k))) /\ lE bp L u (aA L k) e u') := by
 obtain ⟨y, hy⟩ := dh hk;cases hb : ck 2 t (aA L k) with
 | true => exact (gu bp a cap L k y t u s.ps hy hb).mono fun e u' h => .inl ⟨⟨fun K => by simp only [must, if_true, ar], hT.next hk hb (by decide)⟩, h⟩
 | false => exact (gW bp a cap L k y t u s.ps hy hb).mono fun e u' h => .inr ⟨fun K => by simp [must], lE.here s hy h⟩
theorem yQ (s : St bp a cap L w k u) (hT : Tk L) (hk : k < L.length) :
    Calls Tryz.prog 99 #[.pointer (some ⟨bp, 0, none⟩)] u fun e u' => ∃ n,
      (((∀ K, dY (aA L k) K = K n (aA L (k + 1))) /\ k + 1 < L.length) /\ e = .returned (.string n) /\ Mv bp (k + 1) u u') \/ ((∀ K, dY (aA L k) K = some (.bad (aA L k))) /\ lE bp L u (aA L k) e u') := by
 obtain ⟨y, hy⟩ := dh hk
 by_cases hb : y.1.k = 1
 ·exact (kW bp a cap L k y u s.ps hy hb).mono fun e u' h => ⟨_, .inl ⟨⟨fun K => by simp only [dY, eT hy, hb, if_true, ar], (hT k y hy).2 (by omega)⟩, h⟩⟩
 ·exact (yL bp a cap L k y u s.ps hy hb).mono fun e u' h => ⟨⟨#[]⟩, .inr ⟨fun K => by simp only [dY, eT hy, hb, if_false], lE.here s hy h⟩⟩
theorem AB (s : St bp a cap L w k u) (hT : Tk L) (hk : k < L.length) :
    Calls Tryz.prog 120 #[.pointer (some ⟨bp, 0, none⟩)] u fun e u' => ∃ n,
      (((∀ K, fB (aA L k) K = K n (aA L (k + 1))) /\ k + 1 < L.length) /\ e = .returned (.string n) /\ Mv bp (k + 1) u u') \/ ((∀ K, fB (aA L k) K = some (.bad (aA L k))) /\ lE bp L u (aA L k) e u') := by
 obtain ⟨y, hy⟩ := dh hk;cases hb : kV y.1 with
 | true =>
  have hb' : y.1.k = 1 \/ (y.1.k = 4 /\ y.1.t ≠ [] /\ y.1.t.length <= 64) := by simpa [kV] using hb
  exact (yM bp a cap L k y u s.ps hy hb).mono fun e u' h => ⟨_, .inl ⟨⟨fun K => by simp only [fB, eT hy, if_pos hb', ar], (hT k y hy).2 (by omega)⟩, h⟩⟩
 | false =>
  have hb' : ¬ (y.1.k = 1 \/ (y.1.k = 4 /\ y.1.t ≠ [] /\ y.1.t.length <= 64)) := by simpa [kV] using hb
  exact (AA bp a cap L k y u s.ps hy hb).mono fun e u' h => ⟨⟨#[]⟩, .inr ⟨fun K => by simp only [fB, eT hy, if_neg hb'], lE.here s hy h⟩⟩
theorem pO (s : St bp a cap L w k u) (hT : Tk L) (hk : k < L.length) :
    Calls Tryz.prog 119 #[.pointer (some ⟨bp, 0, none⟩)] u fun e u' => ∃ n k', fV (aA L k) = (n, aA L k') /\ k <= k' /\ k' < L.length /\ e = .returned (.string n) /\ Mv bp k' u u' := by
 obtain ⟨y, hy⟩ := dh hk
 by_cases hb : y.1.k = 1
 ·exact (tY bp a cap L k y u s.ps hy hb).mono fun e u' h => ⟨_, k + 1, by simp only [fV, eT hy, hb, if_true, ar], by omega, (hT k y hy).2 (by omega), h⟩
 ·exact (wB bp a cap L k y u s.ps hy hb).mono fun e u' h => ⟨_, k, by simp only [fV, eT hy, hb, if_false], Nat.le_refl _, hk, h.1, Mv.below (Mv.refl s.ps) h.2⟩
theorem wE (s : St bp a cap L w k u) (hk : k < L.length) :
    Calls Tryz.prog 114 #[.pointer (some ⟨bp, 0, none⟩)] u fun e u' => e = .returned (.tuple #[.int .i64 (eL (nx (aA L k))), .int .i64 (Bp (nx (aA L k)))]) /\ Mv bp k u u' := by
 obtain ⟨y, hy⟩ := dh hk;rw [eT hy];exact (tT bp a cap L k y u s.ps hy).mono fun e u' h => ⟨h.1, Mv.below (Mv.refl s.ps) h.2⟩
theorem sv (s : St bp a cap L w k u) (hk : k < L.length) :
    Calls Tryz.prog 47 #[.pointer (some ⟨bp, 0, none⟩)] u fun e u' => ∃ p : Nat, e = .returned (.agg #[.int .i64 (nx (aA L k)).k, .string (ai (nx (aA L k)).t), .int .i64 (nx (aA L k)).n, .int .i64 p]) /\ Mv bp k u u' := by
 obtain ⟨y, hy⟩ := dh hk;rw [eT hy];exact (dM bp a cap L k y u s.ps hy).mono fun e u' h => ⟨y.2, h.1, Mv.below (Mv.refl s.ps) h.2⟩
theorem sw (s : St bp a cap L w k u) (hk : k < L.length) :
    Calls Tryz.prog 48 #[.pointer (some ⟨bp, 0, none⟩), .bool true] u fun e u' => ∃ p : Nat, e = .returned (.agg #[.int .i64 (nx (aA L k)).k, .string (ai (nx (aA L k)).t), .int .i64 (nx (aA L k)).n, .int .i64 p]) /\ Mv bp (k + 1) u u' := by
 obtain ⟨y, hy⟩ := dh hk;rw [eT hy];exact (jo bp a cap L k y u s.ps hy).mono fun e u' h => ⟨y.2, h⟩
theorem jr (s : St bp a cap L w k u) (hk : k < L.length) :
    Calls Tryz.prog 48 #[.pointer (some ⟨bp, 0, none⟩), .bool false] u fun e u' => lE bp L u (aA L k) e u' := by
 obtain ⟨y, hy⟩ := dh hk;exact (gV bp a cap L k y u s.ps hy).mono fun e u' h => lE.here s hy h
theorem yR (s : St bp a cap L w k u) (hk : k < L.length) :
    Calls Tryz.prog 88 #[.pointer (some ⟨bp, 0, none⟩)] u fun e u' => lE bp L u (aA L k) e u' := by
 obtain ⟨y, hy⟩ := dh hk;exact (pF bp a cap L k y u s.ps hy).mono fun e u' h => lE.here s hy h
theorem yS (s : St bp a cap L w k u) (hT : Tk L) (hk : k < L.length) {S : Nat -> Prop} {t : Ex} {cs : List Value} (hX : HX S u cs t) (hp : ¬ S bp) :
    Calls Tryz.prog 115 #[.pointer (some ⟨bp, 0, none⟩), .agg cs.toArray] u fun e u' =>
      (∃ (op : Int) (k' : Nat) (ds : List Value) (g : Nat), (∀ K : Ex -> List am -> O, (if cB fm (aA L k) = true then must (cB eD (aA L (k + 1))) (aA L (k + 1)) (K (mE 12 ⟨#[]⟩ [t])) else must (cB eD (aA L k)) (aA L k) (K (mE 11 ⟨#[]⟩ [t]))) = K (mE op ⟨#[]⟩ [t]) (aA L k')) /\
        k < k' /\ k' < L.length /\ e = .returned (.agg (List.toArray ds)) /\ HX (fun b => S b \/ b = g) u' ds (mE op ⟨#[]⟩ [t]) /\ u.heap.size <= g /\ Mv bp k' u u') \/
      ∃ r, (∀ K : Ex -> List am -> O, (if cB fm (aA L k) = true then must (cB eD (aA L (k + 1))) (aA L (k + 1)) (K (mE 12 ⟨#[]⟩ [t])) else must (cB eD (aA L k)) (aA L k) (K (mE 11 ⟨#[]⟩ [t]))) = some (.bad r)) /\ lE bp L u r e u' := by
 obtain ⟨y, hy⟩ := dh hk;cases hn : ck 2 fm (aA L k) with
 | false =>
  cases hu : ck 2 eD (aA L k) with
  | true => exact (ww bp a cap L k y t cs u s.ps hy hn hu S hX hp).mono fun e u' ⟨ds, g, h1, h2, h3, h4⟩ => .inl ⟨11, k + 1, ds, g, fun K => by simp only [cB, hn, hu, must, ar, Bool.false_eq_true, if_false, if_true], by omega, hT.next hk hu (by decide), h1, h2, h3, h4⟩
  | false => exact (wA bp a cap L k y t cs u s.ps hy hn hu S hX hp).mono fun e u' h => .inr ⟨_, fun K => by simp only [cB, hn, hu, must, Bool.false_eq_true, if_false], lE.here s hy h⟩
 | true =>
  have hk2 := hT.next hk hn (by decide);obtain ⟨z, hz⟩ := dh hk2;cases hu : ck 2 eD (aA L (k + 1)) with
  | true => exact (wy bp a cap L k y t cs u s.ps hy hn z hz hu S hX hp).mono fun e u' ⟨ds, g, h1, h2, h3, h4⟩ => .inl ⟨12, k + 1 + 1, ds, g, fun K => by simp only [cB, hn, hu, must, ar, if_true], by omega, hT.next hk2 hu (by decide), h1, h2, h3, h4⟩
  | false => exact (tX bp a cap L k y t cs u s.ps hy hn z hz hu S hX hp).mono fun e u' h => .inr ⟨_, fun K => by simp only [cB, hn, hu, must, Bool.false_eq_true, if_false, if_true], ⟨_, z, _, hz, rfl, h.1, h.2⟩⟩
end
end Go.Proofs.YteljlahcdipilaaGreat

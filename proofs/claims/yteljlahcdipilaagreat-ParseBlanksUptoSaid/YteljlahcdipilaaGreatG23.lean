/- Parts Q1, Q2, Q3, Q4, Q5, Q6, Q9 of this seat (pruned, scripts that are alike kept once as default arguments: q1, q2, ..). Conditions: each says its own. -/
import Derived.Test.YteljlahcdipilaaGreatG22
set_option linter.unusedSimpArgs false
set_option linter.unusedVariables false
set_option maxRecDepth 1000000
set_option maxHeartbeats 64000000
namespace Go.Proofs.YteljlahcdipilaaGreat
open Go.RowKit Go.Shelf
structure Ps (bp : Nat) (a : Option Addr) (cap : Nat) (L : List (am × Nat)) (k : Nat) (w : World) : Prop where
  c0 : w.cell? ⟨bp, 0, none⟩ = some (.slice a L.length cap)
  c1 : w.cell? ⟨bp, 1, none⟩ = some (.int .i64 k)
  fz : w.frozen? ⟨bp, 1, none⟩ = false
  row : ∀ (j : Nat) x, L[j]? = some x -> ∃ b off, a = some ⟨b, off, none⟩ /\ b < w.heap.size /\ b ≠ bp /\ ∀ (q : Nat) v, (ni x)[q]? = some v -> w.cell? ⟨b, off + j * 4 + q, none⟩ = some v
  lt : bp < w.heap.size
  ln : L.length <= 4097
theorem Ps.below {bp : Nat} {a : Option Addr} {cap : Nat} {L : List (am × Nat)} {k : Nat} {w w' : World} (h : Ps bp a cap L k w) (hb : Below w.heap.size w w') : Ps bp a cap L k w' where
  c0 := (hb.cell (p := ⟨bp, 0, none⟩) h.lt).trans h.c0
  c1 := (hb.cell (p := ⟨bp, 1, none⟩) h.lt).trans h.c1
  fz := (hb.frozen (p := ⟨bp, 1, none⟩) h.lt).trans h.fz
  row := fun j x hx => by
    obtain ⟨b, off, h1, h2, h3, h4⟩ := h.row j x hx;exact ⟨b, off, h1, Nat.lt_of_lt_of_le h2 hb.size, h3, fun q v hv => (hb.cell (p := ⟨b, off + j * 4 + q, none⟩) h2).trans (h4 q v hv)⟩
  lt := Nat.lt_of_lt_of_le h.lt hb.size
  ln := h.ln
theorem dM (bp : Nat) (a : Option Addr) (cap : Nat) (L : List (am × Nat)) (k : Nat) (x : am × Nat) (w : World) (h : Ps bp a cap L k w) (hx : L[k]? = some x) :
    Calls Tryz.prog 47 #[.pointer (some ⟨bp, 0, none⟩)] w fun e w' => e = .returned (.agg #[.int .i64 x.1.k, .string (ai x.1.t), .int .i64 x.1.n, .int .i64 x.2]) /\ Below w.heap.size w w' := by
 obtain ⟨b, off, rfl, hb, hne, hc⟩ := h.row k x hx;obtain ⟨⟨tk, tt, tn⟩, tp⟩ := x;have hkl : k < L.length := (List.getElem?_eq_some_iff.1 hx).1;obtain ⟨n, hn⟩ := nam L.length;have hln := h.ln;obtain ⟨W0, hW0⟩ : ∃ W0, w.alloc (.cells #[.int .i64 0, .string ⟨#[]⟩, .int .i64 0, .int .i64 0] 31) = W0 := ⟨_, rfl⟩;have hbe : Below w.heap.size w W0 := by rw [<- hW0]; exact (Below.refl _ _).alloc (Nat.le_refl _) _
 have hP := h.below hbe;have hbk : ae W0 w.heap.size [.int .i64 0, .string ⟨#[]⟩, .int .i64 0, .int .i64 0] 31 := by rw [<- hW0]; exact ae.new w _ _
 have e0 := hP.c0;have e1 := hP.c1;rw [hn] at e0 hkl hln;have t0 : W0.cell? ⟨b, off + k * 4, none⟩ = some (.int .i64 tk) := (hbe.cell (p := ⟨b, off + k * 4 + 0, none⟩) hb).trans (hc 0 _ rfl);have t1 : W0.cell? ⟨b, off + k * 4 + 1, none⟩ = some (.string (ai tt)) := (hbe.cell (p := ⟨b, off + k * 4 + 1, none⟩) hb).trans (hc 1 _ rfl);have t2 : W0.cell? ⟨b, off + k * 4 + 2, none⟩ = some (.int .i64 tn) := (hbe.cell (p := ⟨b, off + k * 4 + 2, none⟩) hb).trans (hc 2 _ rfl);have t3 : W0.cell? ⟨b, off + k * 4 + 3, none⟩ = some (.int .i64 tp) := (hbe.cell (p := ⟨b, off + k * 4 + 3, none⟩) hb).trans (hc 3 _ rfl);have z0 := hbk.cell (i := 0) rfl;have z1 := hbk.cell (i := 1) rfl;have z2 := hbk.cell (i := 2) rfl;have z3 := hbk.cell (i := 3) rfl;have f0 := hbk.free 0;have f1 := hbk.free 1;have f2 := hbk.free 2;have f3 := hbk.free 3;have hk1 : (k : Int) < n := by omega
 have hk0 : (0 : Int) <= (k : Int) := by omega
 obtain ⟨HW0, HBE, HBK⟩ := hd3 hW0 hbe hbk;clear hc hx hP h hW0 hbe hbk hn hb hne;go_enter Tryz.func47, Tryz.ntmps47;go_upto_region 1 with fail;rw [HW0.out]
 go_still_tail 10, (by kernel_rfl)
 go_wp2_with fail;have hB2 := HBK.out.setCells [.int .i64 tk, .string (ai tt), .int .i64 tn, .int .i64 tp] 0;have hb2 := (aN (b := w.heap.size) (Nat.le_refl _) [.int .i64 tk, .string (ai tt), .int .i64 tn, .int .i64 tp] 0 W0 HBE.out).drew;refine bodyPost_ret (results_cell_row (by rfl) _ _ w.heap.size 31 _ (0, 0) _ (by rfl) hB2 Tryz.underlying31 rfl (by kernel_rfl)) rfl ?_;exact ⟨rfl, hb2⟩
def aA (L : List (am × Nat)) (k : Nat) : List am := (L.drop k).map Prod.fst
theorem pE {L : List (am × Nat)} {k : Nat} {x : am × Nat} (h : L[k]? = some x) : aA L k = x.1 :: aA L (k + 1) := by
 obtain ⟨h1, h2⟩ := List.getElem?_eq_some_iff.1 h;unfold aA;rw [List.drop_eq_getElem_cons h1, List.map_cons, h2]
theorem yK {L : List (am × Nat)} {k : Nat} {x : am × Nat} (h : L[k]? = some x) (K : Nat) (s : List UInt8) : ck K s (aA L k) = (decide (x.1.k = K) && decide (x.1.t = s)) := by
 rw [pE h]; rfl
theorem jD (a b : List UInt8) : ((ai a).toList == (ai b).toList) = decide (a = b) := by
 rw [gZ, gZ];show (a == b) = decide (a = b)
 by_cases h : a = b
 ·subst h; simp
 ·rw [decide_eq_false h]; simpa using h
theorem nN (bp : Nat) (a : Option Addr) (cap : Nat) (L : List (am × Nat)) (k : Nat) (x : am × Nat) (K : Nat) (s : List UInt8) (w : World) (h : Ps bp a cap L k w) (hx : L[k]? = some x) :
    Calls Tryz.prog 123 #[.pointer (some ⟨bp, 0, none⟩), .int .i64 K, .string (ai s)] w fun e w' => e = .returned (.bool (ck K s (aA L k))) /\ Below w.heap.size w w' := by
 have HN := aa (dM bp a cap L k x w h hx);rw [yK hx];obtain ⟨⟨tk, tt, tn⟩, tp⟩ := x;simp only;have q1 : ((tk : Int) == (K : Int)) = decide (tk = K) := by by_cases e : tk = K <;> simp [e] <;> omega
 have q2 := jD tt s;obtain ⟨b1, h1⟩ := nam (decide (tk = K));obtain ⟨b2, h2⟩ := nam (decide (tt = s));rw [h1] at q1;rw [h2] at q2;rw [h1, h2];clear h hx h1 h2;cases b1 with
 | true =>
  go_enter Tryz.func123, Tryz.ntmps123;go_wp2_with (go_at_call 47; refine HN.out.mono ?_; rintro e w2 ⟨rfl, hb2⟩);go_ret;exact ⟨by simp, hb2.alloc hb2.size _⟩
 | false =>
  go_enter Tryz.func123, Tryz.ntmps123;go_wp2_with (go_at_call 47; refine HN.out.mono ?_; rintro e w2 ⟨rfl, hb2⟩);go_ret;exact ⟨by simp, hb2.alloc hb2.size _⟩
theorem jE (bp : Nat) (a : Option Addr) (cap : Nat) (L : List (am × Nat)) (k : Nat) (x : am × Nat) (s : List UInt8) (w : World) (h : Ps bp a cap L k w) (hx : L[k]? = some x) :
    Calls Tryz.prog 121 #[.pointer (some ⟨bp, 0, none⟩), .string (ai s)] w fun e w' => e = .returned (.bool (ck 5 s (aA L k))) /\ Below w.heap.size w w' := by
 have HN := aa (nN bp a cap L k x 5 s w h hx);go_enter Tryz.func121, Tryz.ntmps121;go_wp2_with (go_at_call 123; refine HN.out.mono ?_; rintro e w2 ⟨rfl, hb2⟩);go_ret;exact ⟨rfl, hb2⟩
theorem jF (bp : Nat) (a : Option Addr) (cap : Nat) (L : List (am × Nat)) (k : Nat) (x : am × Nat) (s : List UInt8) (w : World) (h : Ps bp a cap L k w) (hx : L[k]? = some x) :
    Calls Tryz.prog 112 #[.pointer (some ⟨bp, 0, none⟩), .string (ai s)] w fun e w' => e = .returned (.bool (ck 2 s (aA L k))) /\ Below w.heap.size w w' := by
 have HN := aa (nN bp a cap L k x 2 s w h hx);go_enter Tryz.func112, Tryz.ntmps112;go_wp2_with (go_at_call 123; refine HN.out.mono ?_; rintro e w2 ⟨rfl, hb2⟩);go_ret;exact ⟨rfl, hb2⟩
def eX (p : Nat) : List PanicEntry := [{ v := .iface 76 (.int .i64 p), recovered := false }]
theorem pF (bp : Nat) (a : Option Addr) (cap : Nat) (L : List (am × Nat)) (k : Nat) (x : am × Nat) (w : World) (h : Ps bp a cap L k w) (hx : L[k]? = some x) :
    Calls Tryz.prog 88 #[.pointer (some ⟨bp, 0, none⟩)] w fun e w' => e = .panicked (eX x.2) /\ Below w.heap.size w w' := by
 have HN := aa (dM bp a cap L k x w h hx);have hf : ∀ u, (Instr.field 31 (.agg #[.int .i64 x.1.k, .string (ai x.1.t), .int .i64 x.1.n, .int .i64 x.2]) 3).run Tryz.prog u = .ok (.int .i64 x.2) u := fun _ => by kernel_rfl
 go_enter Tryz.func88, Tryz.ntmps88;go_wp2_with (go_at_call 47; refine HN.out.mono ?_; rintro e w2 ⟨rfl, hb2⟩);exact ⟨rfl, rfl, hb2⟩
def Mv (bp k : Nat) (w w' : World) : Prop := Below w.heap.size (w.setCell ⟨bp, 1, none⟩ (.int .i64 k)) w'
theorem ir {B bp : Nat} {v : Value} {w w2 : World} (h : Below B w w2) : Below B (w.setCell ⟨bp, 1, none⟩ v) (w2.setCell ⟨bp, 1, none⟩ v) where
  os := h.os
  tape := h.tape
  output := h.output
  size := by rw [World.size_setCell, World.size_setCell]; exact h.size
  block := fun k hk => by
    have h1 := h.block k hk;simp only [World.setCell, Array.getElem?_modify];rw [h1]
theorem jo (bp : Nat) (a : Option Addr) (cap : Nat) (L : List (am × Nat)) (k : Nat) (x : am × Nat) (w : World) (h : Ps bp a cap L k w) (hx : L[k]? = some x) :
    Calls Tryz.prog 48 #[.pointer (some ⟨bp, 0, none⟩), .bool true] w fun e w' => e = .returned (.agg #[.int .i64 x.1.k, .string (ai x.1.t), .int .i64 x.1.n, .int .i64 x.2]) /\ Mv bp (k + 1) w w' := by
 obtain ⟨W0, hW0⟩ : ∃ W0, w.alloc (.cells #[.int .i64 0, .string ⟨#[]⟩, .int .i64 0, .int .i64 0] 31) = W0 := ⟨_, rfl⟩;have hbe : Below w.heap.size w W0 := by rw [<- hW0]; exact (Below.refl _ _).alloc (Nat.le_refl _) _
 have hP := h.below hbe;have HN := aa (dM bp a cap L k x W0 hP hx);have HBK : Hid (ae W0 w.heap.size [.int .i64 0, .string ⟨#[]⟩, .int .i64 0, .int .i64 0] 31) := aa (by rw [<- hW0]; exact ae.new w _ _);have hne : ¬ bp = w.heap.size := by have := h.lt; omega
 have hne2 : ¬ w.heap.size = bp := fun e => hne e.symm
 obtain ⟨HW0, HBE, HP⟩ := hd3 hW0 hbe hP;have hkl : k < L.length := (List.getElem?_eq_some_iff.1 hx).1;have hln := h.ln;have hwk : IntKind.i64.wrap ((k : Int) + 1) = (k : Int) + 1 := IntWalk.i64_in _ (by omega);clear hW0 hbe hP h hx;go_enter Tryz.func48, Tryz.ntmps48;go_upto_region 1 with fail;rw [HW0.out];go_wp2_with (go_at_call 47; refine HN.out.mono ?_; rintro e w2 ⟨rfl, hb2⟩; have hP2 := HP.out.below hb2; have p1 := hP2.c1; have p2 := hP2.fz; have p3 := hP2.lt; have bk := HBK.out.below hb2 HBK.out.lt; have y0 := bk.cell (i := 0) rfl; have y1 := bk.cell (i := 1) rfl; have y2 := bk.cell (i := 2) rfl; have y3 := bk.cell (i := 3) rfl; have y4 := bk.free 0; have y5 := bk.free 1; have y6 := bk.free 2; have y7 := bk.free 3; have y8 := bk.lt);have hB1 := bk.of_heap (Below.heap_setCell w2 ⟨bp, 1, none⟩ (.int .i64 ((k : Int) + 1)) w.heap.size hne2);have hB2 := (hB1.setCells [.int .i64 x.1.k, .string (ai x.1.t), .int .i64 x.1.n, .int .i64 x.2] 0).alloc (.cells #[.int .i64 x.1.k, .string (ai x.1.t), .int .i64 x.1.n, .int .i64 x.2] 31);have hM := aN (b := w.heap.size) (Nat.le_refl _) [.int .i64 x.1.k, .string (ai x.1.t), .int .i64 x.1.n, .int .i64 x.2] 0 _ (ir (bp := bp) (v := .int .i64 ((k : Int) + 1)) (HBE.out.trans (hb2.mono HBE.out.size)));refine bodyPost_ret (results_cell_row (by rfl) _ _ w.heap.size 31 _ (0, 0) _ (by rfl) hB2 Tryz.underlying31 rfl (by kernel_rfl)) rfl ?_;exact ⟨rfl, hM.alloc (by have := hM.size; rw [World.size_setCell] at this; exact this) _⟩
theorem Mv.of {bp k : Nat} {w w1 w2 : World} (h1 : Below w.heap.size w w1) (h2 : Mv bp k w1 w2) : Mv bp k w w2 :=
  (ir h1).trans (h2.mono h1.size)
theorem Az {bp k : Nat} {w w2 : World} (h : Below w.heap.size w w2) : Mv bp (k + 1) w (w2.setCell ⟨bp, 1, none⟩ (.int .i64 ((k : Int) + 1))) := by
 unfold Mv;rw [show ((k + 1 : Nat) : Int) = (k : Int) + 1 from by omega];exact ir h
theorem Mv.below {bp k : Nat} {w w1 w2 : World} (h1 : Mv bp k w w1) (h2 : Below w1.heap.size w1 w2) : Mv bp k w w2 :=
  h1.trans (h2.mono (by have := h1.size; rw [World.size_setCell] at this; exact this))
theorem Mv.size {bp k : Nat} {w w1 : World} (h1 : Mv bp k w w1) : w.heap.size <= w1.heap.size := by
 have := Below.size h1; rw [World.size_setCell] at this; exact this
theorem Ps.mv {bp : Nat} {a : Option Addr} {cap : Nat} {L : List (am × Nat)} {k k' : Nat} {w w' : World} (h : Ps bp a cap L k w) (hm : Mv bp k' w w') : Ps bp a cap L k' w' := by
 have hs : (w.setCell ⟨bp, 1, none⟩ (.int .i64 k')).heap.size = w.heap.size := World.size_setCell _ _ _;have hP : Ps bp a cap L k' (w.setCell ⟨bp, 1, none⟩ (.int .i64 k')) := {
  c0 := (World.cell?_setCell_other _ _ _ _ (by simp)).trans h.c0
  c1 := World.cell?_setCell_same _ _ _ h.c1
  fz := by rw [World.frozen?_setCell]; exact h.fz
  row := fun j x hx => by
   obtain ⟨b, off, h1, h2, h3, h4⟩ := h.row j x hx;refine ⟨b, off, h1, by rw [hs]; exact h2, h3, fun q v hv => (World.cell?_setCell_other _ _ _ _ (fun e => h3 ?_)).trans (h4 q v hv)⟩;injection e with e1 _ _
   exact e1.symm
  lt := by rw [hs]; exact h.lt
  ln := h.ln }
 exact hP.below (by rw [hs]; exact hm)
theorem gV (bp : Nat) (a : Option Addr) (cap : Nat) (L : List (am × Nat)) (k : Nat) (x : am × Nat) (w : World) (h : Ps bp a cap L k w) (hx : L[k]? = some x) :
    Calls Tryz.prog 48 #[.pointer (some ⟨bp, 0, none⟩), .bool false] w fun e w' => e = .panicked (eX x.2) /\ Below w.heap.size w w' := by
 obtain ⟨W0, hW0⟩ : ∃ W0, w.alloc (.cells #[.int .i64 0, .string ⟨#[]⟩, .int .i64 0, .int .i64 0] 31) = W0 := ⟨_, rfl⟩;have hbe : Below w.heap.size w W0 := by rw [<- hW0]; exact (Below.refl _ _).alloc (Nat.le_refl _) _
 have HN := aa (pF bp a cap L k x W0 (h.below hbe) hx);have HW0 := aa hW0;have HBE := aa hbe;clear hW0 hbe h hx;go_enter Tryz.func48, Tryz.ntmps48;go_upto_region 1 with fail;rw [HW0.out];go_wp2_with (go_at_call 88; refine HN.out.mono ?_; rintro e w2 ⟨rfl, hb2⟩);exact ⟨rfl, rfl, HBE.out.trans (hb2.mono HBE.out.size)⟩
theorem nO (bp : Nat) (a : Option Addr) (cap : Nat) (L : List (am × Nat)) (k : Nat) (x : am × Nat) (K : Nat) (s : List UInt8) (w : World) (h : Ps bp a cap L k w) (hx : L[k]? = some x) (hn : ck K s (aA L k) = false) :
    Calls Tryz.prog 103 #[.pointer (some ⟨bp, 0, none⟩), .int .i64 K, .string (ai s)] w fun e w' => e = .returned (.bool false) /\ Below w.heap.size w w' := by
 have HN := aa (nN bp a cap L k x K s w h hx);rw [hn] at HN;clear h hx hn;go_enter Tryz.func103, Tryz.ntmps103;go_wp2_with (go_at_call 123; refine HN.out.mono ?_; rintro e w2 ⟨rfl, hb2⟩);go_ret;exact ⟨rfl, hb2⟩
theorem kU (bp : Nat) (a : Option Addr) (cap : Nat) (L : List (am × Nat)) (k : Nat) (x : am × Nat) (K : Nat) (s : List UInt8) (w : World) (h : Ps bp a cap L k w) (hx : L[k]? = some x) (hn : ck K s (aA L k) = true) :
    Calls Tryz.prog 103 #[.pointer (some ⟨bp, 0, none⟩), .int .i64 K, .string (ai s)] w fun e w' => e = .returned (.bool true) /\ Mv bp (k + 1) w w' := by
 have HN := aa (nN bp a cap L k x K s w h hx);have HP := aa h;have hkl : k < L.length := (List.getElem?_eq_some_iff.1 hx).1;have hln := h.ln;have hwk : IntKind.i64.wrap ((k : Int) + 1) = (k : Int) + 1 := IntWalk.i64_in _ (by omega);rw [hn] at HN;clear h hx hn;go_enter Tryz.func103, Tryz.ntmps103;go_wp2_with (go_at_call 123; refine HN.out.mono ?_; rintro e w2 ⟨rfl, hb2⟩; have hP2 := HP.out.below hb2; have p1 := hP2.c1; have p2 := hP2.fz; have p3 := hP2.lt);go_ret;exact ⟨rfl, Az hb2⟩
theorem Sq968515 {P : Prop} (h : P := by
 have HN := aa (jE bp a cap L k x s w h hx);rw [hn] at HN
 first
 | (guard_hyp z968515a; have HT := aa (fun w2 (hb : Below w.heap.size w w2) => jo bp a cap L k x w2 (h.below hb) hx))
 | (have HT := aa (fun w2 (hb : Below w.heap.size w w2) => gV bp a cap L k x w2 (h.below hb) hx))
 clear h hx hn;go_enter Tryz.func118, Tryz.ntmps118;go_wp2_with (first | (go_at_call 121; refine HN.out.mono ?_; rintro e w2 ⟨rfl, hb2⟩) | (go_at_call 48; refine (HT.out _ hb2).mono ?_; rintro e w3 ⟨rfl, hm3⟩))
 first
 | (guard_hyp z968515a; exact ⟨rfl, _, results_none rfl _ _ _, rfl, Mv.of hb2 hm3⟩)
 | (exact ⟨rfl, rfl, hb2.trans (hm3.mono hb2.size)⟩)) : P := h
theorem nP (bp : Nat) (a : Option Addr) (cap : Nat) (L : List (am × Nat)) (k : Nat) (x : am × Nat) (s : List UInt8) (w : World) (h : Ps bp a cap L k w) (hx : L[k]? = some x) (hn : ck 5 s (aA L k) = true) :
    Calls Tryz.prog 118 #[.pointer (some ⟨bp, 0, none⟩), .string (ai s)] w fun e w' => e = .returned (.tuple #[]) /\ Mv bp (k + 1) w w' := by
 have z968515a := trivial;exact Sq968515
theorem pG (bp : Nat) (a : Option Addr) (cap : Nat) (L : List (am × Nat)) (k : Nat) (x : am × Nat) (s : List UInt8) (w : World) (h : Ps bp a cap L k w) (hx : L[k]? = some x) (hn : ck 5 s (aA L k) = false) :
    Calls Tryz.prog 118 #[.pointer (some ⟨bp, 0, none⟩), .string (ai s)] w fun e w' => e = .panicked (eX x.2) /\ Below w.heap.size w w' := Sq968515
theorem Sq438759 {P : Prop} (h : P := by
 have HN := aa (jF bp a cap L k x s w h hx);rw [hn] at HN
 first
 | (guard_hyp z438759a; have HT := aa (fun w2 (hb : Below w.heap.size w w2) => jo bp a cap L k x w2 (h.below hb) hx))
 | (have HT := aa (fun w2 (hb : Below w.heap.size w w2) => gV bp a cap L k x w2 (h.below hb) hx))
 clear h hx hn;go_enter Tryz.func98, Tryz.ntmps98;go_wp2_with (first | (go_at_call 112; refine HN.out.mono ?_; rintro e w2 ⟨rfl, hb2⟩) | (go_at_call 48; refine (HT.out _ hb2).mono ?_; rintro e w3 ⟨rfl, hm3⟩))
 first
 | (guard_hyp z438759a; exact ⟨rfl, _, results_none rfl _ _ _, rfl, Mv.of hb2 hm3⟩)
 | (exact ⟨rfl, rfl, hb2.trans (hm3.mono hb2.size)⟩)) : P := h
theorem gu (bp : Nat) (a : Option Addr) (cap : Nat) (L : List (am × Nat)) (k : Nat) (x : am × Nat) (s : List UInt8) (w : World) (h : Ps bp a cap L k w) (hx : L[k]? = some x) (hn : ck 2 s (aA L k) = true) :
    Calls Tryz.prog 98 #[.pointer (some ⟨bp, 0, none⟩), .string (ai s)] w fun e w' => e = .returned (.tuple #[]) /\ Mv bp (k + 1) w w' := by
 have z438759a := trivial;exact Sq438759
theorem gW (bp : Nat) (a : Option Addr) (cap : Nat) (L : List (am × Nat)) (k : Nat) (x : am × Nat) (s : List UInt8) (w : World) (h : Ps bp a cap L k w) (hx : L[k]? = some x) (hn : ck 2 s (aA L k) = false) :
    Calls Tryz.prog 98 #[.pointer (some ⟨bp, 0, none⟩), .string (ai s)] w fun e w' => e = .panicked (eX x.2) /\ Below w.heap.size w w' := Sq438759
def kV (t : am) : Bool := decide (t.k = 1) || (decide (t.k = 4) && (!decide (t.t = []) && decide (t.t.length <= 64)))
theorem Sq748369 {P : Prop} (h : P := by
 have HN := aa (dM bp a cap L k x w h hx)
 first
 | (guard_hyp z748369a; have HT := aa (fun w2 (hb : Below w.heap.size w w2) => jo bp a cap L k x w2 (h.below hb) hx))
 | (have HT := aa (fun w2 (hb : Below w.heap.size w w2) => gV bp a cap L k x w2 (h.below hb) hx))
 have hf : ∀ u, (Instr.field 31 (.agg #[.int .i64 x.1.k, .string (ai x.1.t), .int .i64 x.1.n, .int .i64 x.2]) 0).run Tryz.prog u = .ok (.int .i64 x.1.k) u := fun _ => by kernel_rfl
 first
 |(
  guard_hyp z748369a
  have hf1 : ∀ u, (Instr.field 31 (.agg #[.int .i64 x.1.k, .string (ai x.1.t), .int .i64 x.1.n, .int .i64 x.2]) 1).run Tryz.prog u = .ok (.string (ai x.1.t)) u := fun _ => by kernel_rfl
  have hk : ((x.1.k : Int) == 1) = true := by rw [hn]; rfl)
 | (have hk : ((x.1.k : Int) == 1) = false := by simp; omega)
 clear h hx hn;go_enter Tryz.func99, Tryz.ntmps99;go_wp2_with (first | (go_at_call 47; refine HN.out.mono ?_; rintro e w2 ⟨rfl, hb2⟩) | (go_at_call 48; refine (HT.out _ hb2).mono ?_; rintro e w3 ⟨rfl, hm3⟩))
 first
 | (guard_hyp z748369b; exact ⟨rfl, rfl, hb2.trans (hm3.mono hb2.size)⟩)
 |(
  go_ret;exact ⟨rfl, Mv.of hb2 hm3⟩)) : P := h
theorem kW (bp : Nat) (a : Option Addr) (cap : Nat) (L : List (am × Nat)) (k : Nat) (x : am × Nat) (w : World) (h : Ps bp a cap L k w) (hx : L[k]? = some x) (hn : x.1.k = 1) :
    Calls Tryz.prog 99 #[.pointer (some ⟨bp, 0, none⟩)] w fun e w' => e = .returned (.string (ai x.1.t)) /\ Mv bp (k + 1) w w' := by
 have z748369a := trivial;exact Sq748369
theorem yL (bp : Nat) (a : Option Addr) (cap : Nat) (L : List (am × Nat)) (k : Nat) (x : am × Nat) (w : World) (h : Ps bp a cap L k w) (hx : L[k]? = some x) (hn : x.1.k ≠ 1) :
    Calls Tryz.prog 99 #[.pointer (some ⟨bp, 0, none⟩)] w fun e w' => e = .panicked (eX x.2) /\ Below w.heap.size w w' := by
 have z748369b := trivial;exact Sq748369
theorem my (t : am) : (((t.k : Int) == 1) = decide (t.k = 1)) /\ (((t.k : Int) == 4) = decide (t.k = 4)) /\ (((ai t.t).toList == []) = decide (t.t = [])) /\ (((ai t.t).size : Int) <= 64 ↔ t.t.length <= 64) := by
 refine ⟨?_, ?_, ?_, ?_⟩
 ·by_cases e : t.k = 1 <;> simp [e] <;> omega
 ·by_cases e : t.k = 4 <;> simp [e] <;> omega
 ·rw [aE]; by_cases e : t.t = [] <;> simp [e]
 ·rw [aj]; omega
theorem yM (bp : Nat) (a : Option Addr) (cap : Nat) (L : List (am × Nat)) (k : Nat) (x : am × Nat) (w : World) (h : Ps bp a cap L k w) (hx : L[k]? = some x) (hn : kV x.1 = true) :
    Calls Tryz.prog 120 #[.pointer (some ⟨bp, 0, none⟩)] w fun e w' => e = .returned (.string (ai x.1.t)) /\ Mv bp (k + 1) w w' := by
 have HN := aa (dM bp a cap L k x w h hx);have HT := aa (fun w2 (hb : Below w.heap.size w w2) => jo bp a cap L k x w2 (h.below hb) hx);have hf1 : ∀ u, (Instr.field 31 (.agg #[.int .i64 x.1.k, .string (ai x.1.t), .int .i64 x.1.n, .int .i64 x.2]) 1).run Tryz.prog u = .ok (.string (ai x.1.t)) u := fun _ => by kernel_rfl
 obtain ⟨q1, q2, q3, q4⟩ := my x.1;unfold kV at hn;obtain ⟨b1, h1⟩ := nam (decide (x.1.k = 1));obtain ⟨b2, h2⟩ := nam (decide (x.1.k = 4));obtain ⟨b3, h3⟩ := nam (decide (x.1.t = []));rw [h1] at hn q1;rw [h2] at hn q2;rw [h3] at hn q3;clear h hx h1 h2 h3;cases b1 with
 | true =>
  clear hn q2 q3 q4;go_enter Tryz.func120, Tryz.ntmps120;go_wp2_with (first | (go_at_call 47; refine HN.out.mono ?_; rintro e w2 ⟨rfl, hb2⟩) | (go_at_call 48; refine (HT.out _ (hb2.alloc hb2.size _)).mono ?_; rintro e w3 ⟨rfl, hm3⟩));go_ret;exact ⟨rfl, Mv.of (hb2.alloc hb2.size _) hm3⟩
 | false =>
  simp only [Bool.false_or, Bool.and_eq_true, Bool.not_eq_true', decide_eq_true_eq] at hn;obtain ⟨rfl, rfl, hl⟩ := hn;have hl1 := q4.2 hl;have hl2 : decide (((ai x.1.t).size : Int) <= 64) = true := decide_eq_true hl1;have ht : ¬ (ai x.1.t).toList = [] := by simpa using q3
  go_enter Tryz.func120, Tryz.ntmps120;go_wp2_with (first | (go_at_call 47; refine HN.out.mono ?_; rintro e w2 ⟨rfl, hb2⟩) | (go_at_call 48; refine (HT.out _ (hb2.alloc hb2.size _)).mono ?_; rintro e w3 ⟨rfl, hm3⟩));go_ret;exact ⟨rfl, Mv.of (hb2.alloc hb2.size _) hm3⟩
theorem AA (bp : Nat) (a : Option Addr) (cap : Nat) (L : List (am × Nat)) (k : Nat) (x : am × Nat) (w : World) (h : Ps bp a cap L k w) (hx : L[k]? = some x) (hn : kV x.1 = false) :
    Calls Tryz.prog 120 #[.pointer (some ⟨bp, 0, none⟩)] w fun e w' => e = .panicked (eX x.2) /\ Below w.heap.size w w' := by
 have HN := aa (dM bp a cap L k x w h hx);have HT := aa (fun w2 (hb : Below w.heap.size w w2) => gV bp a cap L k x w2 (h.below hb) hx);obtain ⟨q1, q2, q3, q4⟩ := my x.1;unfold kV at hn;obtain ⟨b1, h1⟩ := nam (decide (x.1.k = 1));obtain ⟨b2, h2⟩ := nam (decide (x.1.k = 4));obtain ⟨b3, h3⟩ := nam (decide (x.1.t = []));rw [h1] at hn q1;rw [h2] at hn q2;rw [h3] at hn q3;clear h hx h1 h2 h3;cases b1 with
 | true => simp at hn
 | false =>
  cases b2 with
  | false =>
   clear hn q3 q4;go_enter Tryz.func120, Tryz.ntmps120;go_wp2_with (first | (go_at_call 47; refine HN.out.mono ?_; rintro e w2 ⟨rfl, hb2⟩) | (go_at_call 48; refine (HT.out _ (hb2.alloc hb2.size _)).mono ?_; rintro e w3 ⟨rfl, hm3⟩));exact ⟨rfl, rfl, (hb2.alloc hb2.size _).trans (hm3.mono (hb2.alloc hb2.size _).size)⟩
  | true =>
   cases b3 with
   | true =>
    clear hn q4;have ht : (ai x.1.t).toList = [] := by simpa using q3
    go_enter Tryz.func120, Tryz.ntmps120;go_wp2_with (first | (go_at_call 47; refine HN.out.mono ?_; rintro e w2 ⟨rfl, hb2⟩) | (go_at_call 48; refine (HT.out _ (hb2.alloc hb2.size _)).mono ?_; rintro e w3 ⟨rfl, hm3⟩));exact ⟨rfl, rfl, (hb2.alloc hb2.size _).trans (hm3.mono (hb2.alloc hb2.size _).size)⟩
   | false =>
    have hl : ¬ x.1.t.length <= 64 := by simpa using hn
    have hl1 : ¬ ((ai x.1.t).size : Int) <= 64 := fun e => hl (q4.1 e)
    have hl2 : decide (((ai x.1.t).size : Int) <= 64) = false := decide_eq_false hl1;have ht : ¬ (ai x.1.t).toList = [] := by simpa using q3
    go_enter Tryz.func120, Tryz.ntmps120;go_wp2_with (first | (go_at_call 47; refine HN.out.mono ?_; rintro e w2 ⟨rfl, hb2⟩) | (go_at_call 48; refine (HT.out _ (hb2.alloc hb2.size _)).mono ?_; rintro e w3 ⟨rfl, hm3⟩));exact ⟨rfl, rfl, (hb2.alloc hb2.size _).trans (hm3.mono (hb2.alloc hb2.size _).size)⟩
def Bp (t : am) : Nat := if eL t = 0 then 0 else eL t + 1
theorem Sq967680 {P : Prop} (h : P := by
 first
 |(
  guard_hyp z967680a
  have hk : x.1.k = 5 \/ x.1.k = 2 := by simp at h5; omega
  clear h2)
 | (have hk : x.1.k = 5 \/ x.1.k = 2 := by simp at h2; omega)
 obtain ⟨c0, e0⟩ : ∃ b, ((ai x.1.t).toList == [79, 82]) = b := ⟨_, rfl⟩;obtain ⟨c1, e1⟩ : ∃ b, ((ai x.1.t).toList == [88, 79, 82]) = b := ⟨_, rfl⟩;obtain ⟨c2, e2⟩ : ∃ b, ((ai x.1.t).toList == [65, 78, 68]) = b := ⟨_, rfl⟩;obtain ⟨c3, e3⟩ := nam (((ai x.1.t).toList == [61]));obtain ⟨c4, e4⟩ : ∃ b, ((ai x.1.t).toList == [60, 62]) = b := ⟨_, rfl⟩;obtain ⟨c5, e5⟩ := nam (((ai x.1.t).toList == [60]));obtain ⟨c6, e6⟩ : ∃ b, ((ai x.1.t).toList == [60, 61]) = b := ⟨_, rfl⟩;obtain ⟨c7, e7⟩ := nam (((ai x.1.t).toList == [62]));obtain ⟨c8, e8⟩ : ∃ b, ((ai x.1.t).toList == [62, 61]) = b := ⟨_, rfl⟩;obtain ⟨c9, e9⟩ : ∃ b, ((ai x.1.t).toList == [73, 78]) = b := ⟨_, rfl⟩;obtain ⟨c10, e10⟩ : ∃ b, ((ai x.1.t).toList == [73, 83]) = b := ⟨_, rfl⟩;obtain ⟨c11, e11⟩ := nam (((ai x.1.t).toList == [43]));obtain ⟨c12, e12⟩ := nam (((ai x.1.t).toList == [45]));obtain ⟨c13, e13⟩ := nam (((ai x.1.t).toList == [42]));obtain ⟨c14, e14⟩ := nam (((ai x.1.t).toList == [47]));obtain ⟨c15, e15⟩ := nam (((ai x.1.t).toList == [37]));cases c0 with
 | true =>
  have ht : x.1.t = [79, 82] := by have := eq_of_beq e0; rwa [aE] at this
  have hv : P = 1 := by rw [<- hP]; unfold eL; rw [if_pos hk, ht]; decide +kernel
  subst hv;clear ht hP hk;go_enter Tryz.func114, Tryz.ntmps114;go_wp2_with (go_at_call 47; refine HN.out.mono ?_; rintro e w2 ⟨rfl, hb2⟩)
  go_ret2
  exact ⟨by rfl, hb2.alloc hb2.size _⟩
 | false =>
  cases c1 with
  | true =>
   have ht : x.1.t = [88, 79, 82] := by have := eq_of_beq e1; rwa [aE] at this
   have hv : P = 2 := by rw [<- hP]; unfold eL; rw [if_pos hk, ht]; decide +kernel
   subst hv;clear ht hP hk;go_enter Tryz.func114, Tryz.ntmps114;go_wp2_with (go_at_call 47; refine HN.out.mono ?_; rintro e w2 ⟨rfl, hb2⟩)
   go_ret2
   exact ⟨by rfl, hb2.alloc hb2.size _⟩
  | false =>
   cases c2 with
   | true =>
    have ht : x.1.t = [65, 78, 68] := by have := eq_of_beq e2; rwa [aE] at this
    have hv : P = 3 := by rw [<- hP]; unfold eL; rw [if_pos hk, ht]; decide +kernel
    subst hv;clear ht hP hk;go_enter Tryz.func114, Tryz.ntmps114;go_wp2_with (go_at_call 47; refine HN.out.mono ?_; rintro e w2 ⟨rfl, hb2⟩)
    go_ret2
    exact ⟨by rfl, hb2.alloc hb2.size _⟩
   | false =>
    cases c3 with
    | true =>
     exact Sq565041
    | false =>
     cases c4 with
     | true =>
      have z565041g := trivial;exact Sq565041
     | false =>
      cases c5 with
      | true =>
       have z565041f := trivial;exact Sq565041
      | false =>
       cases c6 with
       | true =>
        have z565041e := trivial;exact Sq565041
       | false =>
        cases c7 with
        | true =>
         have z565041d := trivial;exact Sq565041
        | false =>
         cases c8 with
         | true =>
          have z565041c := trivial;exact Sq565041
         | false =>
          cases c9 with
          | true =>
           have z565041b := trivial;exact Sq565041
          | false =>
           cases c10 with
           | true =>
            have z565041a := trivial;exact Sq565041
           | false =>
            cases c11 with
            | true =>
             have z172874a := trivial;exact Sq172874
            | false =>
             cases c12 with
             | true =>
              exact Sq172874
             | false =>
              cases c13 with
              | true =>
               have z224630a := trivial;exact Sq224630
              | false =>
               cases c14 with
               | true =>
                exact Sq224630
               | false =>
                cases c15 with
                | true =>
                 have z224630b := trivial;exact Sq224630
                | false =>
                 have hv : P = 0 := by
                  rw [<- hP]; unfold eL;rw [if_pos hk, if_neg (fun e => by rw [aE, e] at e10; revert e10; decide)];simp only [eQ, e0, e1, e2, e3, e4, e5, e6, e7, e8, e9, e11, e12, e13, e14, e15, Bool.false_eq_true, if_false];rfl
                 subst hv;clear hP hk;go_enter Tryz.func114, Tryz.ntmps114;go_wp2_with (go_at_call 47; refine HN.out.mono ?_; rintro e w2 ⟨rfl, hb2⟩)
                 go_ret2
                 exact ⟨by rfl, hb2.alloc hb2.size _⟩) : P := h
theorem Sq565041 {P : Prop} (h : P := by
 first
 | (guard_hyp z565041a; have ht : x.1.t = [73, 83] := by have := eq_of_beq e10; rwa [aE] at this)
 | (guard_hyp z565041b; have ht : x.1.t = [73, 78] := by have := eq_of_beq e9; rwa [aE] at this)
 | (guard_hyp z565041c; have ht : x.1.t = [62, 61] := by have := eq_of_beq e8; rwa [aE] at this)
 | (guard_hyp z565041e; have ht : x.1.t = [60, 61] := by have := eq_of_beq e6; rwa [aE] at this)
 | (guard_hyp z565041g; have ht : x.1.t = [60, 62] := by have := eq_of_beq e4; rwa [aE] at this)
 | (guard_hyp z565041d; have ht : x.1.t = [62] := by have := eq_of_beq e7; rwa [aE] at this)
 | (guard_hyp z565041f; have ht : x.1.t = [60] := by have := eq_of_beq e5; rwa [aE] at this)
 | (have ht : x.1.t = [61] := by have := eq_of_beq e3; rwa [aE] at this)
 have hv : P = 5 := by rw [<- hP]; unfold eL; rw [if_pos hk, ht]; decide +kernel
 subst hv;clear ht hP hk;go_enter Tryz.func114, Tryz.ntmps114;go_wp2_with (go_at_call 47; refine HN.out.mono ?_; rintro e w2 ⟨rfl, hb2⟩)
 go_ret2
 exact ⟨by rfl, hb2.alloc hb2.size _⟩) : P := h
theorem Sq172874 {P : Prop} (h : P := by
 first
 | (guard_hyp z172874a; have ht : x.1.t = [43] := by have := eq_of_beq e11; rwa [aE] at this)
 | (have ht : x.1.t = [45] := by have := eq_of_beq e12; rwa [aE] at this)
 have hv : P = 6 := by rw [<- hP]; unfold eL; rw [if_pos hk, ht]; decide +kernel
 subst hv;clear ht hP hk;go_enter Tryz.func114, Tryz.ntmps114;go_wp2_with (go_at_call 47; refine HN.out.mono ?_; rintro e w2 ⟨rfl, hb2⟩)
 go_ret2
 exact ⟨by rfl, hb2.alloc hb2.size _⟩) : P := h
theorem Sq224630 {P : Prop} (h : P := by
 first
 | (guard_hyp z224630a; have ht : x.1.t = [42] := by have := eq_of_beq e13; rwa [aE] at this)
 | (guard_hyp z224630b; have ht : x.1.t = [37] := by have := eq_of_beq e15; rwa [aE] at this)
 | (have ht : x.1.t = [47] := by have := eq_of_beq e14; rwa [aE] at this)
 have hv : P = 7 := by rw [<- hP]; unfold eL; rw [if_pos hk, ht]; decide +kernel
 subst hv;clear ht hP hk;go_enter Tryz.func114, Tryz.ntmps114;go_wp2_with (go_at_call 47; refine HN.out.mono ?_; rintro e w2 ⟨rfl, hb2⟩)
 go_ret2
 exact ⟨by rfl, hb2.alloc hb2.size _⟩) : P := h
theorem tT (bp : Nat) (a : Option Addr) (cap : Nat) (L : List (am × Nat)) (k : Nat) (x : am × Nat) (w : World) (h : Ps bp a cap L k w) (hx : L[k]? = some x) :
    Calls Tryz.prog 114 #[.pointer (some ⟨bp, 0, none⟩)] w fun e w' => e = .returned (.tuple #[.int .i64 (eL x.1), .int .i64 (Bp x.1)]) /\ Below w.heap.size w w' := by
 have HN := aa (dM bp a cap L k x w h hx);obtain ⟨P, hP⟩ := nam (eL x.1);have hR : Bp x.1 = if P = 0 then 0 else P + 1 := by unfold Bp; rw [hP]
 rw [hP, hR];clear h hx hR;obtain ⟨b5, h5⟩ : ∃ b, ((x.1.k : Int) != 5) = b := ⟨_, rfl⟩;obtain ⟨b2, h2⟩ : ∃ b, ((x.1.k : Int) != 2) = b := ⟨_, rfl⟩;cases b5 with
 | false =>
  have z967680a := trivial;exact Sq967680
 | true =>
  cases b2 with
  | false =>
   exact Sq967680
  | true =>
   have hv : P = 0 := by rw [<- hP]; unfold eL; rw [if_neg]; simp at h5 h2; omega
   subst hv;clear hP;go_enter Tryz.func114, Tryz.ntmps114;go_wp2_with (go_at_call 47; refine HN.out.mono ?_; rintro e w2 ⟨rfl, hb2⟩)
   go_ret2
   exact ⟨by rfl, hb2.alloc hb2.size _⟩
theorem tU (w : World) (a : Addr) (x y : Value) : (w.setCell a x).setCell a y = w.setCell a y := by
 simp only [World.setCell];congr 1;refine Array.ext (by simp) (fun i h1 h2 => ?_);have hi : i < w.heap.size := by simpa using h2
 simp only [Array.getElem_modify]
 split
 ·cases w.heap[i]'hi with
  | cells c t f => cases a.spot <;> simp [Array.setIfInBounds_setIfInBounds]
  | _ => rfl
 ·rfl
def HG (P : World -> Prop) (S : Nat -> Prop) (w : World) : Prop := (∀ b, S b -> b < w.heap.size) /\ ∀ w' : World, (∀ b, S b -> w'.heap[b]? = w.heap[b]?) -> P w'
theorem yN {w w1 : World} {b : Nat} (h : b < w.heap.size) (he : w1.heap[b]? = w.heap[b]?) : b < w1.heap.size := by
 rcases Nat.lt_or_ge b w1.heap.size with h1 | h1
 ·exact h1
 ·rw [Array.getElem?_eq_none h1, Array.getElem?_eq_getElem h] at he; cases he
section
variable {P : World -> Prop} {S : Nat -> Prop} {w w1 : World} {bp k : Nat}
theorem HG.same (h : HG P S w) (hb : ∀ b, S b -> w1.heap[b]? = w.heap[b]?) : HG P S w1 := ⟨fun b hS => yN (h.1 b hS) (hb b hS), fun w' h2 => h.2 w' fun b hS => (h2 b hS).trans (hb b hS)⟩
theorem HG.mv (h : HG P S w) (hm : Mv bp k w w1) (hp : ¬ S bp) : HG P S w1 :=
  h.same fun b hS => (Below.block hm b (h.1 b hS)).trans (Below.heap_setCell w ⟨bp, 1, none⟩ _ b (fun e => hp (by rw [<- show b = bp from e]; exact hS)))
theorem HG.below (h : HG P S w) (hb : Below w.heap.size w w1) : HG P S w1 := h.same fun b hS => hb.block b (h.1 b hS)
theorem HG.mono {S' : Nat -> Prop} (h : HG P S w) (hl : ∀ b, S b -> S' b) (hs : ∀ b, S' b -> b < w.heap.size) : HG P S' w := ⟨hs, fun w' h2 => h.2 w' fun b hb => h2 b (hl b hb)⟩
theorem HG.imp {P' : World -> Prop} (h : HG P S w) (hi : ∀ w', P w' -> P' w') : HG P' S w := ⟨h.1, fun w' h2 => hi w' (h.2 w' h2)⟩
theorem HG.is (h : HG P S w) : P w := h.2 w fun _ _ => rfl
theorem HG.alloc (h : HG P S w) (o : Obj) : HG P S (w.alloc o) := h.same fun b hS => Below.heap_alloc _ _ _ (h.1 b hS)
theorem HG.set (h : HG P S w) {b : Nat} (j : Nat) (v : Value) (hb : ¬ S b) : HG P S (w.setCell ⟨b, j, none⟩ v) := h.same fun q hS => Below.heap_setCell _ _ _ _ (fun e => hb (by rw [<- show q = b from e]; exact hS))
theorem HG.grown (h : HG P S w) {r : Option Nat} (hg : w.grownBy w1 r) (hr : ∀ b, S b -> r ≠ some b) : HG P S w1 := h.same fun q hS => hg.block q (h.1 q hS) (fun e => hr q hS e.symm)
end
abbrev HX (S : Nat -> Prop) (w : World) (cs : List Value) (t : Ex) : Prop := HG (fun w' => bK w'.heap.size w' cs t) S w
theorem tY (bp : Nat) (a : Option Addr) (cap : Nat) (L : List (am × Nat)) (k : Nat) (x : am × Nat) (w : World) (h : Ps bp a cap L k w) (hx : L[k]? = some x) (hn : x.1.k = 1) :
    Calls Tryz.prog 119 #[.pointer (some ⟨bp, 0, none⟩)] w fun e w' => e = .returned (.string (ai x.1.t)) /\ Mv bp (k + 1) w w' := by
 have HN := aa (dM bp a cap L k x w h hx);have HT := aa (fun w2 (hb : Below w.heap.size w w2) => kW bp a cap L k x w2 (h.below hb) hx hn);have hf : ∀ u, (Instr.field 31 (.agg #[.int .i64 x.1.k, .string (ai x.1.t), .int .i64 x.1.n, .int .i64 x.2]) 0).run Tryz.prog u = .ok (.int .i64 x.1.k) u := fun _ => by kernel_rfl
 have hk : ((x.1.k : Int) != 1) = false := by rw [hn]; rfl
 clear h hx hn;go_enter Tryz.func119, Tryz.ntmps119;go_wp2_with (first | (go_at_call 47; refine HN.out.mono ?_; rintro e w2 ⟨rfl, hb2⟩) | (go_at_call 99; refine (HT.out _ hb2).mono ?_; rintro e w3 ⟨rfl, hm3⟩));go_ret;exact ⟨rfl, Mv.of hb2 hm3⟩
theorem wB (bp : Nat) (a : Option Addr) (cap : Nat) (L : List (am × Nat)) (k : Nat) (x : am × Nat) (w : World) (h : Ps bp a cap L k w) (hx : L[k]? = some x) (hn : x.1.k ≠ 1) :
    Calls Tryz.prog 119 #[.pointer (some ⟨bp, 0, none⟩)] w fun e w' => e = .returned (.string ⟨#[]⟩) /\ Below w.heap.size w w' := by
 have HN := aa (dM bp a cap L k x w h hx);have hf : ∀ u, (Instr.field 31 (.agg #[.int .i64 x.1.k, .string (ai x.1.t), .int .i64 x.1.n, .int .i64 x.2]) 0).run Tryz.prog u = .ok (.int .i64 x.1.k) u := fun _ => by kernel_rfl
 have hk : ((x.1.k : Int) != 1) = true := by simp; omega
 clear h hx hn;go_enter Tryz.func119, Tryz.ntmps119;go_wp2_with (go_at_call 47; refine HN.out.mono ?_; rintro e w2 ⟨rfl, hb2⟩);go_ret;exact ⟨rfl, hb2⟩
end Go.Proofs.YteljlahcdipilaaGreat

/- Parts Q36, Q37, Q40, Q41, Q75, Q42 of this seat (pruned, scripts that are alike kept once as default arguments: q1, q2, ..). Conditions: each says its own. -/
import Derived.Test.YteljlahcdipilaaGreatG39
set_option linter.unusedSimpArgs false
set_option linter.unusedVariables false
set_option maxRecDepth 1000000
set_option maxHeartbeats 64000000
namespace Go.Proofs.YteljlahcdipilaaGreat
open Go.RowKit Go.Shelf
def nV (L : List (am × Nat)) (s : ByteArray) (w : World) : Prop := ∀ w0, Below w.heap.size w w0 -> Calls Tryz.prog 7 #[.string s] w0 fun e w' => ∃ a cap, e = .returned (.tuple #[.slice a L.length cap, .int .i64 0, .int .i64 0]) /\ w'.ownsRow w0.heap.size 31 4 (.slice a L.length cap) L.length (bV L) /\ Below w0.heap.size w0 w'
theorem sH {bp B : Nat} {a : Option Addr} {cap : Nat} {L : List (am × Nat)} {u : World} (hb : ae u bp [.slice a L.length cap, .int .i64 0] 79) (ho : u.ownsRow B 31 4 (.slice a L.length cap) L.length (bV L)) (hB : ∀ q, (Value.slice a L.length cap).ownBlock = some q -> q ≠ bp) (hL : L.length <= 4097) : Ps bp a cap L 0 u where
  c0 := hb.cell (i := 0) rfl
  c1 := hb.cell (i := 1) rfl
  fz := hb.free 1
  lt := hb.lt
  ln := hL
  row := fun j x hx => by
    obtain ⟨h1, h2⟩ := ho;have hj := (List.getElem?_eq_some_iff.1 hx).1;rcases h2 with ⟨-, h5⟩ | ⟨g, cap', cur, e, h3, h4, h5, h6, h7, h8⟩
    · omega
    · injection e with e1 e2 e3
      refine ⟨g, 0, e1, (Array.getElem?_eq_some_iff.1 h4).1, hB g (by rw [e1]; rfl), fun q v hv => ?_⟩;have hbl : ae u g cur.toList 31 := by unfold ae; simpa using h4
      rw [Nat.zero_add];refine hbl.cell ?_;have h9 : (bV L)[j * 4 + q]? = some v := by
        obtain ⟨t0, t1, t2, t3⟩ := je hx;unfold ni at hv;rcases q with _ | _ | _ | _ | q
        · exact t0.trans hv
        · exact t1.trans hv
        · exact t2.trans hv
        · exact t3.trans hv
        · simp at hv
      rw [<- h8, List.getElem?_take] at h9
      split at h9
      · exact h9
      · cases h9
def sI (v : V) (rb : Bool) (w : World) : Prop := ∀ (cs : List Value) (w0 : World), Below w.heap.size w w0 -> j7 w0.heap.size w0 cs ⟨v.clauses⟩ -> Calls Tryz.prog 30 #[.agg cs.toArray] w0 fun e w' => e = .returned (.bool rb) /\ Below w0.heap.size w0 w'
set_option maxRecDepth 100000 in
theorem Sq308297 {P : Prop} (h : P := by
 have hmf : ∀ (fn : Fn) (first cap : Array Value) (w : World), (Instr.makeFunc fn first cap).run Tryz.prog w = .ok (.func fn first cap) w := fun _ _ _ _ => rfl
 obtain ⟨y0, hy0⟩ := nam (w.alloc (.cells #[.slice none 0 0] 35));obtain ⟨y1, hy1⟩ := nam (y0.alloc (.cells #[.int .i64 0] 3));obtain ⟨u0, hu0⟩ := nam (y1.alloc (.cells #[.int .i64 0] 24));have z0 : y0.heap.size = w.heap.size + 1 := by rw [<- hy0]; simp
 have z1 : y1.heap.size = w.heap.size + 2 := by rw [<- hy1]; simp; omega
 have zu0 : u0.heap.size = w.heap.size + 3 := by rw [<- hu0]; simp; omega
 have be0 : Below w.heap.size w u0 := by rw [<- hu0, <- hy1, <- hy0]; exact (((Below.refl _ _).alloc (Nat.le_refl _) _).alloc (by simp) _).alloc (by simp; omega) _
 have b0 : ae u0 w.heap.size [.slice none 0 0] 35 := by rw [<- hu0, <- hy1, <- hy0]; exact ((ae.new w _ _).alloc _).alloc _
 have b1 : ae u0 (w.heap.size + 1) [.int .i64 0] 3 := by rw [<- hu0, <- hy1, <- z0]; exact (ae.new y0 _ _).alloc _
 have b2 : ae u0 (w.heap.size + 2) [.int .i64 0] 24 := by rw [<- hu0, <- z1]; exact ae.new y1 _ _
 have HU : Hid (((w.alloc (.cells #[.slice none 0 0] 35)).alloc (.cells #[.int .i64 0] 3)).alloc (.cells #[.int .i64 0] 24) = u0) := aa (by rw [hy0, hy1, hu0]);have BE0 := aa be0;have CS := aa (HS u0 be0);have B0o := aa b0;have B0a := aa b1;have B0e := aa b2;obtain ⟨HT, H0, HL, HTL, HR⟩ := hd5 hT h0 hL hTl hr;clear hy0 hy1 hu0 be0 b0 b1 b2 hT h0 hL hTl hr HS
 go_enter_defers Tryz.func11, Tryz.ntmps11
 go_upto_region 1 with fail;rw [HU.out];go_wp2_with (go_at_call 7; refine af.out ?_);refine af.mk ?_;refine CS.out.mono ?_;rintro e u1 ⟨a, cap, rfl, hown, hb1⟩;have zb1 := hb1.size;have BE1 := aa (BE0.out.trans (hb1.mono BE0.out.size));have B1o := aa (B0o.out.below hb1 B0o.out.lt);have B1a := aa (B0a.out.below hb1 B0a.out.lt);have B1e := aa (B0e.out.below hb1 B0e.out.lt);have OW := aa hown;clear hb1 hown;have c1 := B1a.out.cell (i := 0) rfl;have c2 := B1e.out.cell (i := 0) rfl;have d1 := B1a.out.free 0;have d2 := B1e.out.free 0;go_upto_region 2 with fail;clear c1 c2 d1 d2;obtain ⟨u2, hu2⟩ : ∃ u, (u1.setCell ⟨w.heap.size + 1, 0, none⟩ (.int .i64 0)).setCell ⟨w.heap.size + 2, 0, none⟩ (.int .i64 0) = u := ⟨_, rfl⟩;rw [hu2];have zu2 : u2.heap.size = u1.heap.size := by rw [<- hu2]; simp [World.size_setCell]
 have hk2 : ∀ q, q ≠ w.heap.size + 1 -> q ≠ w.heap.size + 2 -> u2.heap[q]? = u1.heap[q]? := fun q h1 h2 => by rw [<- hu2, Below.heap_setCell _ ⟨w.heap.size + 2, 0, none⟩ _ q h2, Below.heap_setCell _ ⟨w.heap.size + 1, 0, none⟩ _ q h1]
 have BE2 := aa (show Below w.heap.size w u2 from by rw [<- hu2]; exact Below.setCell (Below.setCell BE1.out (by show w.heap.size <= w.heap.size + 1; omega) _) (by show w.heap.size <= w.heap.size + 2; omega) _);have B2o := aa (B1o.out.of_heap (hk2 _ (by omega) (by omega)));have B2a := aa (show ae u2 (w.heap.size + 1) [.int .i64 0] 3 from by rw [<- hu2]; exact (B1a.out.set 0 _).of_heap (Below.heap_setCell _ ⟨w.heap.size + 2, 0, none⟩ _ _ (by show w.heap.size + 1 ≠ w.heap.size + 2; omega)));have B2e := aa (show ae u2 (w.heap.size + 2) [.int .i64 0] 24 from by rw [<- hu2]; exact (B1e.out.of_heap (Below.heap_setCell _ ⟨w.heap.size + 1, 0, none⟩ _ _ (by show w.heap.size + 2 ≠ w.heap.size + 1; omega))).set 0 _);have OW2 := aa (dF OW.out fun q hq => hk2 q (by have := (OW.out.lt q hq).1; omega) (by have := (OW.out.lt q hq).1; omega));clear hu2 hk2;have e4 := B2e.out.cell (i := 0) rfl;go_upto_region 6 with fail;clear e4;obtain ⟨u3, hu3⟩ : ∃ u, u2.alloc (.cells #[.slice a L.length cap, .int .i64 0] 79) = u := ⟨_, rfl⟩;rw [hu3];have zu3 : u3.heap.size = u1.heap.size + 1 := by rw [<- hu3, <- zu2]; simp
 have BE3 := aa (show Below w.heap.size w u3 from by rw [<- hu3]; exact BE2.out.alloc (by have := BE2.out.size; omega) _);have B3o := aa (show ae u3 _ _ _ from by rw [<- hu3]; exact B2o.out.alloc _);have B3a := aa (show ae u3 _ _ _ from by rw [<- hu3]; exact B2a.out.alloc _);have B3e := aa (show ae u3 _ _ _ from by rw [<- hu3]; exact B2e.out.alloc _);have PS := aa (sH (bp := u1.heap.size) (u := u3) (by rw [<- hu3, <- zu2]; exact ae.new u2 _ _) (dF OW2.out fun q hq => by rw [<- hu3]; exact Below.heap_alloc _ _ _ (OW2.out.lt q hq).2) (fun q hq => by have := (OW2.out.lt q hq).2; omega) HL.out);clear hu3
 first
 |(
  guard_hyp z308297b
  have HRT := aa HRt;clear HRt;have CM := aa (pV HTL.out (u1.heap.size) a cap L 0 u3 (.ok v r) PS.out rfl HT.out H0.out HR.out))
 | (have CM := aa (pV HTL.out (u1.heap.size) a cap L 0 u3 (.bad r) PS.out rfl HT.out H0.out HR.out))
 go_wp2_with (go_at_call 29; refine af.out ?_);refine af.mk ?_;refine CM.out.mono ?_
 first
 |(
  guard_hyp z308297b
  rintro e u4 ⟨k4, val, q4, l4, -, rfl, ⟨S4, cs, rfl, hS4, hX4⟩, f3⟩;obtain ⟨sa, sc, rfl, -⟩ := hX4.is;obtain ⟨sn, hsn⟩ := nam ((vC.mk v.clauses).clauses.length);rw [hsn] at hX4 ⊢;have V4 := aa hX4;have HS4 := aa hS4;have z34 := Mv.size f3)
 |(
  rintro e u4 ⟨k9, y9, j9, f1, f2, rfl, f3⟩;go_wp2_with fail;have MM := aa f3)
 have B4o := aa (f3.blk B3o.out (by omega));have B4a := aa (f3.blk B3a.out (by omega));have B4e := aa (f3.blk B3e.out (by omega))
 first
 |(
  guard_hyp z308297a
  have BE4 := aa (show Below w.heap.size w u4 from (Below.setCell BE3.out (p := ⟨u1.heap.size, 1, none⟩) (by show w.heap.size <= u1.heap.size; omega) (.int .i64 j9)).trans (Below.mono f3 (by omega)));refine leaves_cons (f := 28) (args := #[.pointer (some ⟨w.heap.size, 0, none⟩), .pointer (some ⟨w.heap.size + 1, 0, none⟩), .pointer (some ⟨w.heap.size + 1 + 1, 0, none⟩)]) (by simp) (by simp [go_sem]) ?_;refine (pW w.heap.size (w.heap.size + 1) (w.heap.size + 1 + 1) _ _ _ y9.2 [] u4 B4o.out B4a.out B4e.out (by omega) (by omega) (by omega)).mono ?_;rintro e u' w'' ⟨rfl, rfl, rfl⟩;obtain ⟨u5, hu5⟩ : ∃ u, ((u4.drew.setCells w.heap.size 0 [.slice none 0 0]).setCell ⟨w.heap.size + 1, 0, none⟩ (.int .i64 y9.2)).setCell ⟨w.heap.size + 1 + 1, 0, none⟩ (.int .i64 1) = u := ⟨_, rfl⟩)
 |(
  have BE4 := aa (show Below w.heap.size w u4 from (Below.setCell BE3.out (p := ⟨u1.heap.size, 1, none⟩) (by show w.heap.size <= u1.heap.size; omega) (.int .i64 k4)).trans (Below.mono f3 (by omega)));clear f3 hX4 hS4 hsn;have hTh := ah B4o.out 0 1 (Nat.le_refl 1);go_upto_region 7 with (refine wpList_store_mid rfl 35 _ _ rfl w.heap.size 0 #[.slice sa sn sc] rfl rfl hTh (by kernel_rfl) (by simp [Value.oneCell']) ?_)
  go_frame
  obtain ⟨u5, hu5⟩ := nam (u4.setCells w.heap.size 0 [.slice sa sn sc]))
 rw [hu5]
 first
 |(
  guard_hyp z308297a
  have B5o : ae u5 w.heap.size [.slice none 0 0] 35 := by
   rw [<- hu5];exact (((B4o.out.of_heap (w' := u4.drew) rfl).setCells [.slice none 0 0] 0).of_heap (Below.heap_setCell _ ⟨w.heap.size + 1, 0, none⟩ _ _ (by show w.heap.size ≠ w.heap.size + 1; omega))).of_heap (Below.heap_setCell _ ⟨w.heap.size + 1 + 1, 0, none⟩ _ _ (by show w.heap.size ≠ w.heap.size + 1 + 1; omega))
  have B5a : ae u5 (w.heap.size + 1) [.int .i64 y9.2] 3 := by
   rw [<- hu5];exact (((B4a.out.of_heap (w' := u4.drew) rfl).of_heap (ak (by omega) [.slice none 0 0] 0 _)).set 0 _).of_heap (Below.heap_setCell _ ⟨w.heap.size + 1 + 1, 0, none⟩ _ _ (by show w.heap.size + 1 ≠ w.heap.size + 1 + 1; omega))
  have B5e : ae u5 (w.heap.size + 1 + 1) [.int .i64 1] 24 := by
   rw [<- hu5];exact (((B4e.out.of_heap (w' := u4.drew) rfl).of_heap (ak (by omega) [.slice none 0 0] 0 _)).of_heap (Below.heap_setCell _ ⟨w.heap.size + 1, 0, none⟩ _ _ (by show w.heap.size + 1 + 1 ≠ w.heap.size + 1; omega))).set 0 _
  have BE5 : Below w.heap.size w u5 := by
   rw [<- hu5];exact Below.setCell (Below.setCell (aN (Nat.le_refl _) _ 0 _ BE4.out.drew) (by show w.heap.size <= w.heap.size + 1; omega) _) (by show w.heap.size <= w.heap.size + 1 + 1; omega) _
  have v0 := B5o.cell (i := 0) rfl;have v1 := B5a.cell (i := 0) rfl;have v2 := B5e.cell (i := 0) rfl;have BE5' := aa BE5;clear hu5 B5o B5a B5e BE5;simp [Leaves, settle, results, Tryz.results11, go_sem, v0, v1, v2];exact ⟨k9, y9.1, y9.2, f1, f2, rfl, BE5'.out⟩)
 |(
  have z5 : u5.heap.size = u4.heap.size := by rw [<- hu5]; exact aQ _ _ _
  have B5o := aa (show ae u5 w.heap.size [.slice sa sn sc] 35 from by rw [<- hu5]; exact B4o.out.all _ rfl);have B5a := aa (B4a.out.of_heap (w' := u5) (by rw [<- hu5]; exact ak (by omega) _ 0 _));have B5e := aa (B4e.out.of_heap (w' := u5) (by rw [<- hu5]; exact ak (by omega) _ 0 _));have BE5 := aa (show Below w.heap.size w u5 from by rw [<- hu5]; exact aN (Nat.le_refl _) _ 0 _ BE4.out);have V5 := aa (V4.out.same (w1 := u5) (fun b hb => by rw [<- hu5]; exact ak (fun e => absurd (HS4.out b hb) (by omega)) _ 0 _));clear hu5 hTh;have CR := aa (HRT.out _ u5 BE5.out V5.out.is);have hRg := B5o.out.rng;go_wp2_with (first | (refine wpList_load_mid rfl 35 _ rfl w.heap.size 0 rfl [.slice sa sn sc] _ hRg Tryz.underlying35 rfl (by kernel_rfl) ?_) | (go_at_call 30; refine af.out ?_));refine af.mk ?_;refine CR.out.mono ?_;rintro e u6 ⟨rfl, hb6⟩;have z6 := hb6.size;have B6o := aa (B5o.out.below hb6 B5o.out.lt);have B6a := aa (B5a.out.below hb6 B5a.out.lt);have B6e := aa (B5e.out.below hb6 B5e.out.lt);have BE6 := aa (BE5.out.trans (hb6.mono (by omega)));have V6 := aa (V5.out.below hb6);clear hb6 hRg;cases rb with
  | true =>
   have z752732a := trivial;exact Sq752732
  | false =>
   exact Sq752732)) : P := h
theorem Sq752732 {P : Prop} (h : P := by
 first
 | (guard_hyp z752732a; go_upto_region 9 with fail)
 | (go_upto_region 8 with fail)
 have hTh := ah B6o.out 0 1 (Nat.le_refl 1)
 first
 |(
  guard_hyp z752732a
  have hRg := B6o.out.rng;go_wp2_with (first | (refine wpList_load_mid rfl 35 _ rfl w.heap.size 0 rfl [.slice sa sn sc] _ hRg Tryz.underlying35 rfl (by kernel_rfl) ?_) | (refine wpList_store_mid rfl 35 _ _ rfl w.heap.size 0 #[.slice sa sn sc] rfl rfl hTh (by kernel_rfl) (by simp [Value.oneCell']) ?_; refine af.out ?_)))
 | (go_wp2_with (first | (refine wpList_store_mid rfl 35 _ _ rfl w.heap.size 0 #[.slice none 0 0] rfl rfl hTh (by kernel_rfl) (by simp [Value.oneCell']) ?_; refine af.out ?_)))
 refine af.mk ?_
 first
 | (guard_hyp z752732a; obtain ⟨u7, hu7⟩ : ∃ u, u6.setCells w.heap.size 0 ((#[.slice sa sn sc] : Array Value).toList) = u := ⟨_, rfl⟩)
 | (obtain ⟨u7, hu7⟩ : ∃ u, u6.setCells w.heap.size 0 ((#[.slice none 0 0] : Array Value).toList) = u := ⟨_, rfl⟩)
 rw [hu7]
 first
 | (guard_hyp z752732a; have B7o := aa (show ae u7 w.heap.size [.slice sa sn sc] 35 from by rw [<- hu7]; exact B6o.out.all _ rfl))
 | (have B7o := aa (show ae u7 w.heap.size [.slice none 0 0] 35 from by rw [<- hu7]; exact B6o.out.all _ rfl))
 have B7a := aa (B6a.out.of_heap (w' := u7) (by rw [<- hu7]; exact ak (by omega) _ 0 _));have B7e := aa (B6e.out.of_heap (w' := u7) (by rw [<- hu7]; exact ak (by omega) _ 0 _));have BE7 := aa (show Below w.heap.size w u7 from by rw [<- hu7]; exact aN (Nat.le_refl _) _ 0 _ BE6.out);have V7 := aa (V6.out.same (w1 := u7) (fun b hb => by rw [<- hu7]; exact ak (fun e => absurd (HS4.out b hb) (by omega)) _ 0 _));clear hu7 hTh;have c1 := B7a.out.cell (i := 0) rfl;have c2 := B7e.out.cell (i := 0) rfl;have d1 := B7a.out.free 0;have d2 := B7e.out.free 0;go_wp2_with fail;clear c1 c2 d1 d2
 first
 | (guard_hyp z752732a; obtain ⟨u8, hu8⟩ : ∃ u, (u7.setCell ⟨w.heap.size + 1, 0, none⟩ (.int .i64 0)).setCell ⟨w.heap.size + 1 + 1, 0, none⟩ (.int .i64 0) = u := ⟨_, rfl⟩)
 | (obtain ⟨u8, hu8⟩ : ∃ u, (u7.setCell ⟨w.heap.size + 1, 0, none⟩ (.int .i64 0)).setCell ⟨w.heap.size + 1 + 1, 0, none⟩ (.int .i64 8) = u := ⟨_, rfl⟩)
 rw [hu8];have hk8 : ∀ q, q ≠ w.heap.size + 1 -> q ≠ w.heap.size + 1 + 1 -> u8.heap[q]? = u7.heap[q]? := fun q h1 h2 => by rw [<- hu8, Below.heap_setCell _ ⟨w.heap.size + 1 + 1, 0, none⟩ _ q h2, Below.heap_setCell _ ⟨w.heap.size + 1, 0, none⟩ _ q h1]
 have B8o := B7o.out.of_heap (w' := u8) (hk8 _ (by omega) (by omega));have B8a : ae u8 (w.heap.size + 1) [.int .i64 0] 3 := by rw [<- hu8]; exact (B7a.out.set 0 _).of_heap (Below.heap_setCell _ ⟨w.heap.size + 1 + 1, 0, none⟩ _ _ (by show w.heap.size + 1 ≠ w.heap.size + 1 + 1; omega))
 first
 | (guard_hyp z752732a; have B8e : ae u8 (w.heap.size + 1 + 1) [.int .i64 0] 24 := by rw [<- hu8]; exact (B7e.out.of_heap (Below.heap_setCell _ ⟨w.heap.size + 1, 0, none⟩ _ _ (by show w.heap.size + 1 + 1 ≠ w.heap.size + 1; omega))).set 0 _)
 | (have B8e : ae u8 (w.heap.size + 1 + 1) [.int .i64 8] 24 := by rw [<- hu8]; exact (B7e.out.of_heap (Below.heap_setCell _ ⟨w.heap.size + 1, 0, none⟩ _ _ (by show w.heap.size + 1 + 1 ≠ w.heap.size + 1; omega))).set 0 _)
 have BE8 := aa (show Below w.heap.size w u8 from by rw [<- hu8]; exact Below.setCell (Below.setCell BE7.out (by show w.heap.size <= w.heap.size + 1; omega) _) (by show w.heap.size <= w.heap.size + 1 + 1; omega) _);have V8 := aa (V7.out.same (w1 := u8) (fun b hb => hk8 b (fun e => absurd (HS4.out b hb) (by omega)) (fun e => absurd (HS4.out b hb) (by omega))));have v0 := B8o.cell (i := 0) rfl;have v1 := B8a.cell (i := 0) rfl;have v2 := B8e.cell (i := 0) rfl;clear hu8 hk8 B8o B8a B8e;refine leaves_cons (f := 28) (args := #[.pointer (some ⟨w.heap.size, 0, none⟩), .pointer (some ⟨w.heap.size + 1, 0, none⟩), .pointer (some ⟨w.heap.size + 1 + 1, 0, none⟩)]) (by simp) (by simp [go_sem]) ?_;refine (lu _ _ _ u8).mono ?_;rintro e u' w'' ⟨rfl, rfl, rfl⟩;simp [Leaves, settle, results, Tryz.results11, go_sem, v0, v1, v2]
 first
 | (guard_hyp z752732a; exact ⟨BE8.out, S4, fun b hb => by have := HS4.out b hb; omega, V8.out⟩)
 | (exact BE8.out)) : P := h
theorem mF {f : Nat} (s : ByteArray) (L : List (am × Nat)) (w : World) (HS : nV L s w) (hT : Tk L) (h0 : 0 < L.length) (hL : L.length <= 4097) (hTl : ∀ (j : Nat) y, L[j]? = some y -> y.1.t.length <= 4294967296) (r : List am) (hr : run (f + 1) (.stmt []) (aA L 0) = some (.bad r)) :
    Calls Tryz.prog 11 #[.string s] w fun e w' => ∃ k y, L[k]? = some y /\ r = aA L k /\ e = .returned (.tuple #[.agg #[.slice none 0 0], .int .i64 y.2, .int .i64 1]) /\ Below w.heap.size w w' := by
 have z308297a := trivial;exact Sq308297
theorem pX {f : Nat} (s : ByteArray) (L : List (am × Nat)) (w : World) (HS : nV L s w) (hT : Tk L) (h0 : 0 < L.length) (hL : L.length <= 4097) (hTl : ∀ (j : Nat) y, L[j]? = some y -> y.1.t.length <= 4294967296) (v : V) (r : List am) (rb : Bool) (HRt : sI v rb w) (hr : run (f + 1) (.stmt []) (aA L 0) = some (.ok v r)) :
    Calls Tryz.prog 11 #[.string s] w fun e w' => Below w.heap.size w w' /\ if rb = true then ∃ S cs, e = .returned (.tuple #[.agg (List.toArray cs), .int .i64 0, .int .i64 0]) /\ (∀ b, S b -> w.heap.size <= b) /\ HG (fun u => AI u cs ⟨v.clauses⟩) S w' else e = .returned (.tuple #[.agg #[.slice none 0 0], .int .i64 0, .int .i64 8]) := by
 have z308297b := trivial;exact Sq308297
def zc (p x : Int) (s : ByteArray) (w : World) : Prop := ∀ w0, Below w.heap.size w w0 -> Calls Tryz.prog 7 #[.string s] w0 fun e w' => e = .returned (.tuple #[.slice none 0 0, .int .i64 p, .int .i64 x]) /\ Below w0.heap.size w0 w'
def Ck : List UInt8 := [109, 97, 116, 99, 104, 32, 40, 110, 58, 65, 41, 45, 45, 62, 40, 109, 41, 32, 114, 101, 116, 117, 114, 110, 32, 110, 46, 107, 32, 43, 32, 49, 32, 97, 115, 32, 120]
def Cl : List UInt8 := [77, 65, 84, 67, 72, 32, 40, 110, 32, 82, 69, 84, 85, 82, 78, 32, 110]
def er : iC -> List (am × Nat) | .ok l => l | .bad _ _ => []
def ze : List (am × Nat) := er (cv Ck)
def rA : List (am × Nat) := er (cv Cl)
theorem xx : cv Ck = .ok ze := by kernel_rfl
theorem xy : cv Cl = .ok rA := by kernel_rfl
def nW : V := match run 60 (.stmt []) (aA ze 0) with | some (.ok v _) => v | _ => .ss []
def Cm : Option Pr -> List am | some (.ok _ r) => r | some (.bad r) => r | none => []
theorem zf : run 60 (.stmt []) (aA ze 0) = some (.ok nW (Cm (run 60 (.stmt []) (aA ze 0)))) := by kernel_rfl
theorem zg : run 60 (.stmt []) (aA rA 0) = some (.bad (Cm (run 60 (.stmt []) (aA rA 0)))) := by kernel_rfl
theorem ur : ∃ c0 c1 p i, nW.clauses = [c0, c1] /\ c0.paths = [p] /\ p.edges.length = 1 /\ c1.items = [i] /\ i.nm = ⟨#[120]⟩ := by
 refine ⟨nW.clauses.headD (aC 0), nW.clauses.tail.headD (aC 0), (nW.clauses.headD (aC 0)).paths.headD ⟨[], []⟩, (nW.clauses.tail.headD (aC 0)).items.headD ⟨cJ, ⟨#[]⟩⟩, ?_, ?_, ?_, ?_, ?_⟩ <;> kernel_rfl
theorem zh : rA.length = 6 := by kernel_rfl
theorem xz : (Cm (run 60 (.stmt []) (aA rA 0))).length = 3 := by kernel_rfl
theorem AU : (rA[3]?).map (·.2) = some 9 := by kernel_rfl
def Cp (w : World) : Prop := ∀ w0, Below w.heap.size w w0 -> Calls Tryz.prog 11 #[.string ⟨#[109, 97, 116, 99, 104, 32, 40, 110, 58, 65, 41, 45, 45, 62, 40, 109, 41, 32, 114, 101, 116, 117, 114, 110, 32, 110, 46, 107, 32, 43, 32, 49, 32, 97, 115, 32, 120]⟩] w0 fun e w' => Below w0.heap.size w0 w' /\ ∃ S cs, e = .returned (.tuple #[.agg (List.toArray cs), .int .i64 0, .int .i64 0]) /\ HG (fun u => AI u cs ⟨nW.clauses⟩) S w'
def Cq (w : World) : Prop := ∀ w0, Below w.heap.size w w0 -> Calls Tryz.prog 11 #[.string ⟨#[77, 65, 84, 67, 72, 32, 40, 110, 32, 82, 69, 84, 85, 82, 78, 32, 110]⟩] w0 fun e w' => Below w0.heap.size w0 w' /\ e = .returned (.tuple #[.agg #[.slice none 0 0], .int .i64 9, .int .i64 1])
theorem pY {u : World} {cs : List Value} (h : AI u cs ⟨nW.clauses⟩) : ∃ b off c pb po pc ec ib io ic ea, cs = [.slice (some ⟨b, off, none⟩) 2 c] /\ u.cell? ⟨b, off + 1, none⟩ = some (.slice (some ⟨pb, po, none⟩) 1 pc) /\ u.cell? ⟨pb, po + 1, none⟩ = some (.slice ea 1 ec) /\
    u.cell? ⟨b, off + (22 + 14), none⟩ = some (.slice (some ⟨ib, io, none⟩) 1 ic) /\ u.cell? ⟨ib, io + 10, none⟩ = some (.string ⟨#[120]⟩) := by
 obtain ⟨c0, c1, p, i, h1, h2, h3, h4, h5⟩ := ur;rw [h1] at h;obtain ⟨a, c, rfl, -, hR⟩ := h;obtain ⟨b, off, d0, rfl, -, -, q0, g0⟩ := hR 0 c0 rfl;obtain ⟨b', off', d1, e1, -, -, q1, g1⟩ := hR 1 c1 rfl;injection e1 with e1; injection e1 with e1 e2 e3; subst e1 e2
 obtain ⟨a1, k1, a2, k2, xe, a5, k5, a7, k7, a8, k8, a9, k9, a10, k10, a11, k11, rfl, -, -, P0, -⟩ := g0;obtain ⟨a1', k1', a2', k2', xe', a5', k5', a7', k7', a8', k8', a9', k9', a10', k10', a11', k11', rfl, -, -, -, -, -, hE, -, I0, -⟩ := g1;obtain ⟨op, nm, vk, vb, vi, vs, la, ln, lc, ka, kn, kc, na, nn, nc, xa, xn, xc, rfl⟩ := ix hE;rw [h2] at P0;rw [h4] at I0;obtain ⟨pb, po, pd, rfl, -, -, q2, g2⟩ := P0 0 p rfl;obtain ⟨na', nc', ea, ec, rfl, -⟩ := g2;obtain ⟨ib, io, id, rfl, -, -, q3, g3⟩ := I0 0 i rfl;obtain ⟨xe2, rfl, hE2⟩ := g3;obtain ⟨op, nm, vk, vb, vi, vs, la, ln, lc, ka, kn, kc, na, nn, nc, xa, xn, xc, rfl⟩ := ix hE2;have r0 := q0 1 _ rfl;have r1 := q1 14 _ rfl;have r2 := q2 1 _ rfl;have r3 := q3 10 _ rfl;rw [h2] at r0;rw [h4] at r1;rw [h3] at r2;rw [h5] at r3;simp only [Nat.zero_mul, Nat.zero_add, Nat.one_mul] at r0 r1 r2 r3;exact ⟨b, off, c, pb, po, k1, ec, ib, io, k5', ea, rfl, r0, r2, r1, r3⟩
theorem rB (w : World) (HA : Cp w) (HB : Cq w) : Calls Tryz.prog 8 #[] w fun e w' => e = .returned (.bool true) /\ Below w.heap.size w w' := by
 have CA := aa HA;have CB := aa HB;clear HA HB;go_enter Tryz.func8, Tryz.ntmps8;go_wp2_with (go_at_call 11; refine af.out ?_);refine af.mk ?_;refine (CA.out w (Below.refl _ _)).mono ?_;rintro e u1 ⟨hb1, S, cs, rfl, hX⟩;obtain ⟨b, off, c, pb, po, pc, ec, ib, io, ic, ea, rfl, -⟩ := pY hX.is;have HX := aa hX;have zb1 := hb1.size;have BE1 := aa hb1;clear hX hb1;have hTh := ah (ae.new u1 [.slice none 0 0] 35) 0 1 (Nat.le_refl 1);go_upto_region 2 with (refine wpList_store_mid rfl 35 _ _ rfl u1.heap.size 0 #[.slice (some ⟨b, off, none⟩) 2 c] rfl rfl hTh (by kernel_rfl) (by simp [Value.oneCell']) ?_);obtain ⟨u2, hu2⟩ : ∃ u, (u1.alloc (.cells #[.slice none 0 0] 35)).setCells u1.heap.size 0 ((#[.slice (some ⟨b, off, none⟩) 2 c] : Array Value).toList) = u := ⟨_, rfl⟩;rw [hu2];have z2 : u2.heap.size = u1.heap.size + 1 := by rw [<- hu2, aQ]; simp
 have b2 : Below u1.heap.size u1 u2 := by rw [<- hu2]; exact aN (Nat.le_refl _) _ 0 _ ((Below.refl _ _).alloc (Nat.le_refl _) _)
 have B2 := aa (show ae u2 u1.heap.size [.slice (some ⟨b, off, none⟩) 2 c] 35 from by rw [<- hu2]; exact (ae.new u1 [.slice none 0 0] 35).all _ rfl);have HX2 := aa (HX.out.below b2);have BE2 := aa (BE1.out.trans (b2.mono zb1));clear hu2 hTh b2;go_wp2_with (go_at_call 11; refine af.out ?_);refine af.mk ?_;refine (CB.out u2 BE2.out).mono ?_;rintro e u3 ⟨hb3, rfl⟩;have zb3 := hb3.size;have hTh := ah (ae.new u3 [.slice none 0 0] 35) 0 1 (Nat.le_refl 1);have B3 := aa (B2.out.below hb3 B2.out.lt);have HX3 := aa (HX2.out.below hb3);have BE3 := aa (BE2.out.trans (hb3.mono BE2.out.size));clear hb3;go_upto_region 3 with (refine wpList_store_mid rfl 35 _ _ rfl u3.heap.size 0 #[.slice none 0 0] rfl rfl hTh (by kernel_rfl) (by simp [Value.oneCell']) ?_);obtain ⟨u4, hu4⟩ : ∃ u, (u3.alloc (.cells #[.slice none 0 0] 35)).setCells u3.heap.size 0 ((#[.slice none 0 0] : Array Value).toList) = u := ⟨_, rfl⟩;rw [hu4];have b4 : Below u3.heap.size u3 u4 := by rw [<- hu4]; exact aN (Nat.le_refl _) _ 0 _ ((Below.refl _ _).alloc (Nat.le_refl _) _)
 have B4 := aa (B3.out.below b4 B3.out.lt);have HX4 := aa (HX3.out.below b4);have BE4 := aa (BE3.out.trans (b4.mono BE3.out.size));clear hu4 hTh b4;obtain ⟨b', off', c', pb, po, pc, ec, ib, io, ic, ea, e1, w0, w1, w2, w3⟩ := pY HX4.out.is;injection e1 with e1
 injection e1 with e1 e2 e3
 injection e1 with e1
 injection e1 with e1 e4
 subst e1 e4 e3;clear e2;have v0 := B4.out.cell (i := 0) rfl;go_wp2_with fail;go_ret;exact ⟨rfl, BE4.out⟩
def au (o : (G -> List am -> O) -> O) : Prop := ∃ x, qi o x
theorem au.some {x : Pr} : au (fun _ => some x) := ⟨x, qi.ok⟩
theorem au.rec {g : G} {l : List am} (h : ∃ x, nM g l x) : au (fun c => c g l) := by obtain ⟨x, h⟩ := h; exact ⟨x, qi.rec h⟩
theorem au.bnd {o : (G -> List am -> O) -> O} {k : (G -> List am -> O) -> V -> List am -> O} (h1 : au o) (h2 : ∀ v r, qi o (.ok v r) -> au (fun c => k c v r)) : au (fun c => bnd (o c) (k c)) := by
 obtain ⟨x, hx⟩ := h1;cases x with
 | ok v r => obtain ⟨y, hy⟩ := h2 v r hx; exact ⟨y, qi.bnd hx hy⟩
 | bad r =>
  obtain ⟨f, hf⟩ := hx;refine ⟨.bad r, f, fun n hn => ?_⟩;show Go.Proofs.YteljlahcdipilaaGreat.bnd (o (run n)) (k (run n)) = _;rw [hf n hn]; rfl
theorem au.ite {p : Prop} [Decidable p] {a b : (G -> List am -> O) -> O} (h1 : p -> au a) (h2 : ¬ p -> au b) : au (fun c => if p then a c else b c) := by
 by_cases h : p
 ·simp only [if_pos h]; exact h1 h
 ·simp only [if_neg h]; exact h2 h
theorem au.must {b : Bool} {l : List am} {k : (G -> List am -> O) -> List am -> O} (h : b = true -> au (fun c => k c l.tail)) : au (fun c => must b l (k c)) := au.ite (p := b = true) h fun _ => au.some
theorem js {l : List am} (h : (nx l).k ≠ 6) : l ≠ [] := fun e => by subst e; exact h rfl
theorem dN {c : UInt8} {l : List am} (h : aL c l = true) : l ≠ [] := js (by
  have h1 : (decide ((nx l).k = 5) && _) = true := h;rw [Bool.and_eq_true, decide_eq_true_eq] at h1;rw [h1.1]; decide)
theorem rC {w : List UInt8} {l : List am} (h : cB w l = true) : l ≠ [] := js (by
  have h1 : (decide ((nx l).k = 2) && _) = true := h;rw [Bool.and_eq_true, decide_eq_true_eq] at h1;rw [h1.1]; decide)
theorem Ab {l : List am} (h : l ≠ []) : l.tail.length < l.length := by
 cases l with
 | nil => exact absurd rfl h
 | cons t l => simp
theorem au.key {l : List am} {k : (G -> List am -> O) -> ByteArray -> List am -> O} (h : l ≠ [] -> ∀ s, au (fun c => k c s l.tail)) : au (fun c => fB l (k c)) := au.ite (p := (nx l).k = 1 \/ ((nx l).k = 4 /\ (nx l).t ≠ [] /\ (nx l).t.length <= 64)) (fun e => h (js (by omega)) _) fun _ => au.some
theorem au.name {l : List am} {k : (G -> List am -> O) -> ByteArray -> List am -> O} (h : l ≠ [] -> ∀ s, au (fun c => k c s l.tail)) : au (fun c => dY l (k c)) := au.ite (p := (nx l).k = 1) (fun e => h (js (by omega)) _) fun _ => au.some
theorem bP {g : G} {l r : List am} {v : V} (h : qi (fun c => c g l) (.ok v r)) : r.length <= l.length := by
 obtain ⟨f, h⟩ := h;exact nU f g l _ (h f (Nat.le_refl _))
theorem sJ {l r : List am} {v : V} (h : qi (fun c => c .edge l) (.ok v r)) : r.length < l.length := by
 obtain ⟨f, h⟩ := h;have h1 := h (f + 1) (by omega);have h2 : Go.Proofs.YteljlahcdipilaaGreat.step (run f) .edge l = some (.ok v r) := h1;simp only [Go.Proofs.YteljlahcdipilaaGreat.step] at h2;have hle := mB (aL 60 l = true) l;generalize (if aL 60 l = true then l.tail else l) = m at h2 hle;unfold must at h2
 by_cases h45 : aL 45 m = true
 ·rw [if_pos h45] at h2;have hm := Ab (dN h45);have hall : ∀ o : O, Sh o m.tail -> o = some (.ok v r) -> r.length <= m.tail.length := fun o ho he => ho _ he
  have := hall _ ?_ h2
  ·omega
  ·have h' : ∀ {g : G} {q : List am}, q.length <= m.tail.length -> Sh (run f g q) m.tail := fun hm x hx => Nat.le_trans (nU f _ _ x hx) hm
   dsimp only
   repeat (first | refine h' ?_ | refine jI ?_ | refine wQ ?_ (fun _ _ _ => ?_) | refine rp ?_ ?_ | exact Nat.le_refl _ | assumption | refine mC ?_ | refine ro ?_)
 ·rw [if_neg h45] at h2; cases h2
def nX : G -> Nat
  | .unary _ => 2 | .expr _ => 3 | .items _ _ => 4 | .list _ => 5 | .atom => 1 | .edgeP _ _ _ => 1 | .item => 4 | .sortL _ => 4 | .rows _ => 5 | .segs _ _ => 1 | .path => 2 | .paths => 3 | .clause _ => 6 | _ => 0
theorem zi (g : G) : nX g <= 7 := by cases g <;> simp [nX]
theorem Cu : ∀ (n : Nat) (g : G) (l : List am), l.length * 8 + nX g <= n -> ∃ x, nM g l x := by
  intro n
  induction n using Nat.strongRecOn with
  | _ n ih =>
    intro g l hn
    -- calls at a shorter list; at one as long, of less nX
    have S : ∀ {g' : G} {m : List am}, m.length < l.length -> au (fun c => c g' m) := fun {g' m} hm => au.rec (ih (m.length * 8 + nX g') (by have : nX g' <= 7 := zi g'; omega) g' m (Nat.le_refl _))
    have L : ∀ {g' : G} {m : List am}, m.length <= l.length -> nX g' < nX g -> au (fun c => c g' m) := fun {g' m} hm hr => au.rec (ih (m.length * 8 + nX g') (by omega) g' m (Nat.le_refl _))
    have fin : au (fun c => Go.Proofs.YteljlahcdipilaaGreat.step c g l) -> ∃ x, nM g l x := fun h => by obtain ⟨x, h⟩ := h; exact ⟨x, nM.of h⟩
    refine fin ?_;have T : ∀ {m : List am}, m ≠ [] -> m.length <= l.length -> m.tail.length < l.length := fun h1 h2 => Nat.lt_of_lt_of_le (Ab h1) h2
    have Tl : ∀ {m : List am}, m.length < l.length -> m.tail.length < l.length := fun h => Nat.lt_of_le_of_lt (mA _) h
    have TL : ∀ {m : List am}, m.length <= l.length -> m.tail.length <= l.length := fun h => Nat.le_trans (mA _) h
    have kne : ∀ {k : Nat}, k ≠ 6 -> (nx l).k = k -> l ≠ [] := fun h e => js (by omega)
    cases g;case expr least => exact au.bnd (L (Nat.le_refl _) (by decide : 2 < 3)) fun v r h => L (bP h) (by decide : 0 < 3)
    case loop least most left =>
      simp only [Go.Proofs.YteljlahcdipilaaGreat.step];refine au.ite (fun _ => au.some) fun h0 => ?_
      have hl : l ≠ [] := fun e => h0 (by subst e; exact .inr (.inl rfl))
      have h1 := T hl (Nat.le_refl _);refine au.ite (fun _ => au.ite (fun _ => au.must fun _ => S (Tl (Tl h1))) fun _ => au.must fun _ => S (Tl h1)) fun _ => au.bnd (S h1) fun v r h => S (Nat.lt_of_le_of_lt (bP h) h1)
    case unary least =>
      simp only [Go.Proofs.YteljlahcdipilaaGreat.step];refine au.ite (fun h => au.bnd (S (T (rC h.2) (Nat.le_refl _))) fun _ _ _ => au.some) fun _ => au.ite (fun h => au.bnd (S (T (dN h) (Nat.le_refl _))) fun _ _ _ => au.some) fun _ => au.bnd (L (Nat.le_refl _) (by decide : 1 < 2)) fun v r h => L (bP h) (by decide : 0 < 2)
    case post x =>
      simp only [Go.Proofs.YteljlahcdipilaaGreat.step];refine au.ite (fun h => au.key fun _ _ => S (Tl (T (dN h) (Nat.le_refl _)))) fun _ => au.ite (fun h => ?_) fun _ => au.ite (fun h => au.key fun _ _ => S (Tl (T (dN h.2) (Nat.le_refl _)))) fun _ => au.some
      have h1 := T (dN h) (Nat.le_refl _);exact au.bnd (S h1) fun v r hr => au.must fun _ => S (Tl (Nat.lt_of_le_of_lt (bP hr) h1))
    case atom =>
      simp only [Go.Proofs.YteljlahcdipilaaGreat.step];refine au.ite (fun _ => au.some) fun _ => au.ite (fun _ => au.some) fun _ => au.ite (fun h1 => ?_) fun _ => au.ite (fun _ => au.some) fun _ => au.ite (fun _ => au.some) fun _ => au.ite (fun _ => au.name fun _ _ => au.some) fun _ => au.ite (fun h => ?_) fun _ => au.ite (fun h => ?_) fun _ => au.ite (fun _ => ?_) fun _ => au.some
      · have h2 := T (kne (by decide) h1) (Nat.le_refl _)
        refine au.ite (fun _ => au.ite (fun _ => au.ite (fun _ => au.must fun _ => au.some) fun _ => au.bnd (S (Tl h2)) fun _ _ _ => au.must fun _ => au.some) fun _ => au.bnd (S (Tl h2)) fun _ _ _ => au.some) fun _ => au.some
      · exact au.bnd (S (T (dN h) (Nat.le_refl _))) fun _ _ _ => au.must fun _ => au.some
      · exact au.bnd (S (T (dN h) (Nat.le_refl _))) fun _ _ _ => au.some
      · exact au.bnd (L (Nat.le_refl _) (by decide : 0 < 1)) fun _ _ _ => au.some
    case list stop => simp only [Go.Proofs.YteljlahcdipilaaGreat.step]; exact au.ite (fun _ => au.some) fun _ => L (Nat.le_refl _) (by decide : 4 < 5)
    case items stop acc =>
      simp only [Go.Proofs.YteljlahcdipilaaGreat.step];exact au.bnd (L (Nat.le_refl _) (by decide : 3 < 4)) fun v r h => au.ite (fun h2 => S (T (dN h2) (bP h))) fun _ => au.must fun _ => au.some
    case props => simp only [Go.Proofs.YteljlahcdipilaaGreat.step]; exact au.must fun h => au.ite (fun _ => au.some) fun _ => S (T (dN h) (Nat.le_refl _))
    case pairs ks vs =>
      simp only [Go.Proofs.YteljlahcdipilaaGreat.step];refine au.key fun h _ => au.must fun _ => ?_
      have h1 := Tl (T h (Nat.le_refl _));exact au.bnd (S h1) fun v r hr => au.ite (fun _ => S (Tl (Nat.lt_of_le_of_lt (bP hr) h1))) fun _ => au.must fun _ => au.some
    case labels acc => simp only [Go.Proofs.YteljlahcdipilaaGreat.step]; exact au.ite (fun h => au.key fun _ _ => S (Tl (T (dN h) (Nat.le_refl _)))) fun _ => au.some
    case node =>
      simp only [Go.Proofs.YteljlahcdipilaaGreat.step];refine au.must fun h => ?_
      have h1 := T (dN h) (Nat.le_refl _);have h2 := Nat.lt_of_le_of_lt (rm l.tail) h1;exact au.bnd (S h2) fun v r hr => au.ite (fun _ => au.bnd (S (Nat.lt_of_le_of_lt (bP hr) h2)) fun _ _ _ => au.must fun _ => au.some) fun _ => au.must fun _ => au.some
    case edge =>
      simp only [Go.Proofs.YteljlahcdipilaaGreat.step];refine au.must fun h => ?_
      have h1 := T (dN h) (mB (aL 60 l = true) l);have h2 := Nat.lt_of_le_of_lt (rm (if aL 60 l = true then l.tail else l).tail.tail) (Tl h1);exact au.ite (fun _ => au.ite (fun _ => au.key fun _ _ => S (Tl (Tl h2))) fun _ => S h2) fun _ => S h1
    case edgeP d var ty =>
      simp only [Go.Proofs.YteljlahcdipilaaGreat.step];exact au.ite (fun _ => au.bnd (L (Nat.le_refl _) (by decide : 0 < 1)) fun v r h => au.must fun h2 => S (T (dN h2) (bP h))) fun _ => au.must fun h => S (T (dN h) (Nat.le_refl _))
    case edgeE d var ty ks vs => simp only [Go.Proofs.YteljlahcdipilaaGreat.step]; exact au.must fun _ => au.ite (fun _ => au.some) fun _ => au.some
    case path => simp only [Go.Proofs.YteljlahcdipilaaGreat.step]; exact au.bnd (L (Nat.le_refl _) (by decide : 0 < 2)) fun v r h => L (bP h) (by decide : 1 < 2)
    case segs ns es =>
      simp only [Go.Proofs.YteljlahcdipilaaGreat.step];exact au.ite (fun _ => au.bnd (L (Nat.le_refl _) (by decide : 0 < 1)) fun v r h => au.bnd (S (sJ h)) fun v2 r2 h2 => S (Nat.lt_of_le_of_lt (bP h2) (sJ h))) fun _ => au.some
    case paths => simp only [Go.Proofs.YteljlahcdipilaaGreat.step]; exact au.bnd (L (Nat.le_refl _) (by decide : 2 < 3)) fun v r h => L (bP h) (by decide : 0 < 3)
    case more acc =>
      simp only [Go.Proofs.YteljlahcdipilaaGreat.step];refine au.ite (fun h => ?_) fun _ => au.some
      have h1 := T (dN h) (Nat.le_refl _);exact au.bnd (S h1) fun v r hr => S (Nat.lt_of_le_of_lt (bP hr) h1)
    case maybe w => simp only [Go.Proofs.YteljlahcdipilaaGreat.step]; exact au.ite (fun h => au.bnd (S (T (rC h) (Nat.le_refl _))) fun _ _ _ => au.some) fun _ => au.some
    case item => simp only [Go.Proofs.YteljlahcdipilaaGreat.step]; exact au.bnd (L (Nat.le_refl _) (by decide : 3 < 4)) fun v r h => au.ite (fun _ => au.some) fun _ => au.must fun _ => au.name fun _ _ => au.some
    case its acc =>
      simp only [Go.Proofs.YteljlahcdipilaaGreat.step];refine au.ite (fun h => ?_) fun _ => au.some
      have h1 := T (dN h) (Nat.le_refl _);exact au.bnd (S h1) fun v r hr => S (Nat.lt_of_le_of_lt (bP hr) h1)
    case sorts => simp only [Go.Proofs.YteljlahcdipilaaGreat.step]; exact au.ite (fun h => au.must fun _ => S (Tl (T (rC h) (Nat.le_refl _)))) fun _ => au.some
    case sortL acc =>
      simp only [Go.Proofs.YteljlahcdipilaaGreat.step];exact au.bnd (L (Nat.le_refl _) (by decide : 3 < 4)) fun v r h => au.ite (fun h2 => S (T (dN h2) (Nat.le_trans (mB _ r) (bP h)))) fun _ => au.some
    case rows kind =>
      simp only [Go.Proofs.YteljlahcdipilaaGreat.step];refine au.bnd (L (mB _ l) (by decide : 4 < 5)) fun v r h => ?_
      have h1 := Nat.le_trans (bP h) (mB _ l);refine au.bnd (L h1 (by decide : 0 < 5)) fun v2 r2 h2 => ?_
      have h3 := Nat.le_trans (bP h2) h1;refine au.bnd (L h3 (by decide : 0 < 5)) fun v4 r4 h4 => ?_
      have h5 := Nat.le_trans (bP h4) h3;refine au.bnd (L h5 (by decide : 0 < 5)) fun v6 r6 h6 => ?_
      exact au.bnd (L (Nat.le_trans (bP h6) h5) (by decide : 0 < 5)) fun _ _ _ => au.some
    case setL kind acc =>
      simp only [Go.Proofs.YteljlahcdipilaaGreat.step];refine au.name fun h _ => ?_
      have h1 := T h (Nat.le_refl _);refine au.ite (fun _ => au.key fun _ _ => au.ite (fun _ => S (Tl (Tl (Tl h1)))) fun _ => au.some) fun _ => au.must fun _ => au.key fun _ _ => au.ite (fun _ => au.must fun _ => au.bnd (S (Tl (Tl (Tl h1)))) fun v r hr => au.ite (fun _ => S (Tl (Nat.lt_of_le_of_lt (bP hr) (Tl (Tl (Tl h1)))))) fun _ => au.some) fun _ => au.ite (fun _ => S (Tl (Tl (Tl h1)))) fun _ => au.some
    case vars acc => simp only [Go.Proofs.YteljlahcdipilaaGreat.step]; exact au.name fun h _ => au.ite (fun _ => S (Tl (T h (Nat.le_refl _)))) fun _ => au.some
    case clause w =>
      simp only [Go.Proofs.YteljlahcdipilaaGreat.step];refine au.ite (fun _ => au.bnd (L (Nat.le_refl _) (by decide : 3 < 6)) fun v r h => au.bnd (L (bP h) (by decide : 0 < 6)) fun _ _ _ => au.some) fun _ => au.ite (fun _ => au.bnd (L (Nat.le_refl _) (by decide : 3 < 6)) fun v r h => au.must fun _ => au.name fun _ _ => au.some) fun _ =>
        au.ite (fun _ => au.bnd (L (Nat.le_refl _) (by decide : 5 < 6)) fun v r h => au.bnd (L (bP h) (by decide : 0 < 6)) fun _ _ _ => au.some) fun _ => au.ite (fun _ => L (Nat.le_refl _) (by decide : 5 < 6)) fun _ => au.ite (fun _ => au.bnd (L (Nat.le_refl _) (by decide : 3 < 6)) fun _ _ _ => au.some) fun _ =>
        au.ite (fun _ => au.bnd (L (Nat.le_refl _) (by decide : 0 < 6)) fun _ _ _ => au.some) fun _ => au.ite (fun _ => au.bnd (L (Nat.le_refl _) (by decide : 0 < 6)) fun _ _ _ => au.some) fun _ => au.ite (fun _ => au.bnd (L (Nat.le_refl _) (by decide : 0 < 6)) fun _ _ _ => au.some) fun _ =>
        au.ite (fun _ => au.bnd (L (Nat.le_refl _) (by decide : 0 < 6)) fun _ _ _ => au.some) fun _ => au.must fun _ => au.bnd (L (mA l) (by decide : 0 < 6)) fun _ _ _ => au.some
    case stmt acc =>
      simp only [Go.Proofs.YteljlahcdipilaaGreat.step];refine au.ite (fun _ => au.some) fun _ => au.ite (fun h => ?_) fun _ => au.some
      have h1 := T (kne (by decide) h.1) (Nat.le_refl _);exact au.bnd (S h1) fun v r hr => S (Nat.lt_of_le_of_lt (bP hr) h1)
theorem zj (g : G) (l : List am) : ∃ x, nM g l x := Cu _ g l (Nat.le_refl _)
def gy (s : ByteArray) (w : World) : Prop := match cv s.data.toList with
  | .bad p x => x ≠ 0 /\ zc p x s w
  | .ok L => nV L s w /\ Tk L /\ 0 < L.length /\ L.length <= 4097 /\ ∀ (j : Nat) y, L[j]? = some y -> y.1.t.length <= 4294967296
theorem zk {g : G} {l : List am} {x : Pr} (h : nM g l x) : ∃ f, run (f + 1) g l = some x := by
 obtain ⟨f, h⟩ := h;cases f with
 | zero => cases h
 | succ f => exact ⟨f, h⟩
end Go.Proofs.YteljlahcdipilaaGreat

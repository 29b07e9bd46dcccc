/- Parts Q36, Q37, Q38 of this seat (pruned, scripts that are alike kept once as default arguments: q1, q2, ..). Conditions: each says its own. -/
import Derived.Test.YteljlahcdipilaaGreatF39
namespace Go.Proofs.YteljlahcdipilaaGreat
open Go.RowKit Go.Shelf
set_option linter.unusedSimpArgs false
set_option linter.unusedVariables false
set_option maxRecDepth 100000
def ScanOk (L : List (Tok × Nat)) (s : ByteArray) (w : World) : Prop := ∀ w0, Below w.heap.size w w0 → Calls Tryz.prog 7 #[.string s] w0 fun e w' => ∃ a cap, e = .returned (.tuple #[.slice a L.length cap, .int .i64 0, .int .i64 0]) ∧ w'.ownsRow w0.heap.size 31 4 (.slice a L.length cap) L.length (tokCells L) ∧ Below w0.heap.size w0 w'
theorem ps_make {bp B : Nat} {a : Option Addr} {cap : Nat} {L : List (Tok × Nat)} {u : World} (hb : Block u bp [.slice a L.length cap, .int .i64 0] 79) (ho : u.ownsRow B 31 4 (.slice a L.length cap) L.length (tokCells L)) (hB : ∀ q, (Value.slice a L.length cap).ownBlock = some q → q ≠ bp) (hL : L.length ≤ 4097) : Ps bp a cap L 0 u where
  c0 := hb.cell (i := 0) rfl
  c1 := hb.cell (i := 1) rfl
  fz := hb.free 1
  lt := hb.lt
  ln := hL
  row := fun j x hx => by
    obtain ⟨h1, h2⟩ := ho
    have hj := (List.getElem?_eq_some_iff.1 hx).1
    rcases h2 with ⟨-, h5⟩ | ⟨g, cap', cur, e, h3, h4, h5, h6, h7, h8⟩
    · omega
    · injection e with e1 e2 e3
      refine ⟨g, 0, e1, (Array.getElem?_eq_some_iff.1 h4).1, hB g (by rw [e1]; rfl), fun q v hv => ?_⟩
      have hbl : Block u g cur.toList 31 := by unfold Block; simpa using h4
      rw [Nat.zero_add]
      refine hbl.cell ?_
      have h9 : (tokCells L)[j * 4 + q]? = some v := by
        obtain ⟨t0, t1, t2, t3⟩ := tokCells_get hx
        unfold tokC at hv
        rcases q with _ | _ | _ | _ | q
        · exact t0.trans hv
        · exact t1.trans hv
        · exact t2.trans hv
        · exact t3.trans hv
        · simp at hv
      rw [← h8, List.getElem?_take] at h9
      split at h9
      · exact h9
      · cases h9
def RightIs (v : V) (rb : Bool) (w : World) : Prop := ∀ (cs : List Value) (w0 : World), Below w.heap.size w w0 → IsSm w0.heap.size w0 cs ⟨v.clauses⟩ → Calls Tryz.prog 30 #[.agg cs.toArray] w0 fun e w' => e = .returned (.bool rb) ∧ Below w0.heap.size w0 w'
set_option maxRecDepth 100000 in
theorem Sq369940 {P : Prop} (h : P := by
 have hmf : ∀ (fn : Fn) (first cap : Array Value) (w : World), (Instr.makeFunc fn first cap).run Tryz.prog w = .ok (.func fn first cap) w := fun _ _ _ _ => rfl
 obtain ⟨y0, hy0⟩ := nam (w.alloc (.cells #[.slice none 0 0] 35))
 obtain ⟨y1, hy1⟩ := nam (y0.alloc (.cells #[.int .i64 0] 3))
 obtain ⟨u0, hu0⟩ := nam (y1.alloc (.cells #[.int .i64 0] 24))
 have z0 : y0.heap.size = w.heap.size + 1 := by rw [← hy0]; simp
 have z1 : y1.heap.size = w.heap.size + 2 := by rw [← hy1]; simp; omega
 have zu0 : u0.heap.size = w.heap.size + 3 := by rw [← hu0]; simp; omega
 have be0 : Below w.heap.size w u0 := by rw [← hu0, ← hy1, ← hy0]; exact (((Below.refl _ _).alloc (Nat.le_refl _) _).alloc (by simp) _).alloc (by simp; omega) _
 have b0 : Block u0 w.heap.size [.slice none 0 0] 35 := by rw [← hu0, ← hy1, ← hy0]; exact ((Block.new w _ _).alloc _).alloc _
 have b1 : Block u0 (w.heap.size + 1) [.int .i64 0] 3 := by rw [← hu0, ← hy1, ← z0]; exact (Block.new y0 _ _).alloc _
 have b2 : Block u0 (w.heap.size + 2) [.int .i64 0] 24 := by rw [← hu0, ← z1]; exact Block.new y1 _ _
 have HU : Hid (((w.alloc (.cells #[.slice none 0 0] 35)).alloc (.cells #[.int .i64 0] 3)).alloc (.cells #[.int .i64 0] 24) = u0) := Lib.hid (by rw [hy0, hy1, hu0])
 have BE0 := Lib.hid be0
 have CS := Lib.hid (HS u0 be0)
 have B0o := Lib.hid b0
 have B0a := Lib.hid b1
 have B0e := Lib.hid b2
 obtain ⟨HT, H0, HL, HTL, HR⟩ := hd5 hT h0 hL hTl hr
 clear hy0 hy1 hu0 be0 b0 b1 b2 hT h0 hL hTl hr HS
 go_enter_defers Tryz.func11, Tryz.ntmps11
 go_upto_region 1 with fail
 rw [HU.out]
 go_wp2_with (go_at_call 7; refine Stand.out ?_)
 refine Stand.mk ?_
 refine CS.out.mono ?_
 rintro e u1 ⟨a, cap, rfl, hown, hb1⟩
 have zb1 := hb1.size
 have BE1 := Lib.hid (BE0.out.trans (hb1.mono BE0.out.size))
 have B1o := Lib.hid (B0o.out.below hb1 B0o.out.lt)
 have B1a := Lib.hid (B0a.out.below hb1 B0a.out.lt)
 have B1e := Lib.hid (B0e.out.below hb1 B0e.out.lt)
 have OW := Lib.hid hown
 clear hb1 hown
 have c1 := B1a.out.cell (i := 0) rfl
 have c2 := B1e.out.cell (i := 0) rfl
 have d1 := B1a.out.free 0
 have d2 := B1e.out.free 0
 go_upto_region 2 with fail
 clear c1 c2 d1 d2
 obtain ⟨u2, hu2⟩ : ∃ u, (u1.setCell ⟨w.heap.size + 1, 0, none⟩ (.int .i64 0)).setCell ⟨w.heap.size + 2, 0, none⟩ (.int .i64 0) = u := ⟨_, rfl⟩
 rw [hu2]
 have zu2 : u2.heap.size = u1.heap.size := by rw [← hu2]; simp [World.size_setCell]
 have hk2 : ∀ q, q ≠ w.heap.size + 1 → q ≠ w.heap.size + 2 → u2.heap[q]? = u1.heap[q]? := fun q h1 h2 => by rw [← hu2, Below.heap_setCell _ ⟨w.heap.size + 2, 0, none⟩ _ q h2, Below.heap_setCell _ ⟨w.heap.size + 1, 0, none⟩ _ q h1]
 have BE2 := Lib.hid (show Below w.heap.size w u2 from by rw [← hu2]; exact Below.setCell (Below.setCell BE1.out (by show w.heap.size ≤ w.heap.size + 1; omega) _) (by show w.heap.size ≤ w.heap.size + 2; omega) _)
 have B2o := Lib.hid (B1o.out.of_heap (hk2 _ (by omega) (by omega)))
 have B2a := Lib.hid (show Block u2 (w.heap.size + 1) [.int .i64 0] 3 from by rw [← hu2]; exact (B1a.out.set 0 _).of_heap (Below.heap_setCell _ ⟨w.heap.size + 2, 0, none⟩ _ _ (by show w.heap.size + 1 ≠ w.heap.size + 2; omega)))
 have B2e := Lib.hid (show Block u2 (w.heap.size + 2) [.int .i64 0] 24 from by rw [← hu2]; exact (B1e.out.of_heap (Below.heap_setCell _ ⟨w.heap.size + 1, 0, none⟩ _ _ (by show w.heap.size + 2 ≠ w.heap.size + 1; omega))).set 0 _)
 have OW2 := Lib.hid (own_heap OW.out fun q hq => hk2 q (by have := (OW.out.lt q hq).1; omega) (by have := (OW.out.lt q hq).1; omega))
 clear hu2 hk2
 have e4 := B2e.out.cell (i := 0) rfl
 go_upto_region 6 with fail
 clear e4
 obtain ⟨u3, hu3⟩ : ∃ u, u2.alloc (.cells #[.slice a L.length cap, .int .i64 0] 79) = u := ⟨_, rfl⟩
 rw [hu3]
 have zu3 : u3.heap.size = u1.heap.size + 1 := by rw [← hu3, ← zu2]; simp
 have BE3 := Lib.hid (show Below w.heap.size w u3 from by rw [← hu3]; exact BE2.out.alloc (by have := BE2.out.size; omega) _)
 have B3o := Lib.hid (show Block u3 _ _ _ from by rw [← hu3]; exact B2o.out.alloc _)
 have B3a := Lib.hid (show Block u3 _ _ _ from by rw [← hu3]; exact B2a.out.alloc _)
 have B3e := Lib.hid (show Block u3 _ _ _ from by rw [← hu3]; exact B2e.out.alloc _)
 have PS := Lib.hid (ps_make (bp := u1.heap.size) (u := u3) (by rw [← hu3, ← zu2]; exact Block.new u2 _ _) (own_heap OW2.out fun q hq => by rw [← hu3]; exact Below.heap_alloc _ _ _ (OW2.out.lt q hq).2) (fun q hq => by have := (OW2.out.lt q hq).2; omega) HL.out)
 clear hu3
 first
 |(
  guard_hyp z369940b
  have HRT := Lib.hid HRt
  clear HRt
  have CM := Lib.hid (stmt_any HTL.out (u1.heap.size) a cap L 0 u3 (.ok v r) PS.out rfl HT.out H0.out HR.out))
 | (have CM := Lib.hid (stmt_any HTL.out (u1.heap.size) a cap L 0 u3 (.bad r) PS.out rfl HT.out H0.out HR.out))
 go_wp2_with (go_at_call 29; refine Stand.out ?_)
 refine Stand.mk ?_
 refine CM.out.mono ?_
 first
 |(
  guard_hyp z369940b
  rintro e u4 ⟨k4, val, q4, l4, -, rfl, ⟨S4, cs, rfl, hS4, hX4⟩, f3⟩
  obtain ⟨sa, sc, rfl, -⟩ := hX4.is
  obtain ⟨sn, hsn⟩ := nam ((Smt.mk v.clauses).clauses.length)
  rw [hsn] at hX4 ⊢
  have V4 := Lib.hid hX4
  have HS4 := Lib.hid hS4
  have z34 := Mv.size f3)
 |(
  rintro e u4 ⟨k9, y9, j9, f1, f2, rfl, f3⟩
  go_wp2_with fail
  have MM := Lib.hid f3)
 have B4o := Lib.hid (f3.blk B3o.out (by omega))
 have B4a := Lib.hid (f3.blk B3a.out (by omega))
 have B4e := Lib.hid (f3.blk B3e.out (by omega))
 first
 |(
  guard_hyp z369940a
  have BE4 := Lib.hid (show Below w.heap.size w u4 from (Below.setCell BE3.out (p := ⟨u1.heap.size, 1, none⟩) (by show w.heap.size ≤ u1.heap.size; omega) (.int .i64 j9)).trans (Below.mono f3 (by omega)))
  refine leaves_cons (f := 28) (args := #[.pointer (some ⟨w.heap.size, 0, none⟩), .pointer (some ⟨w.heap.size + 1, 0, none⟩), .pointer (some ⟨w.heap.size + 1 + 1, 0, none⟩)]) (by simp) (by simp [go_sem]) ?_
  refine (catch_fault w.heap.size (w.heap.size + 1) (w.heap.size + 1 + 1) _ _ _ y9.2 [] u4 B4o.out B4a.out B4e.out (by omega) (by omega) (by omega)).mono ?_
  rintro e u' w'' ⟨rfl, rfl, rfl⟩
  obtain ⟨u5, hu5⟩ : ∃ u, ((u4.drew.setCells w.heap.size 0 [.slice none 0 0]).setCell ⟨w.heap.size + 1, 0, none⟩ (.int .i64 y9.2)).setCell ⟨w.heap.size + 1 + 1, 0, none⟩ (.int .i64 1) = u := ⟨_, rfl⟩)
 |(
  have BE4 := Lib.hid (show Below w.heap.size w u4 from (Below.setCell BE3.out (p := ⟨u1.heap.size, 1, none⟩) (by show w.heap.size ≤ u1.heap.size; omega) (.int .i64 k4)).trans (Below.mono f3 (by omega)))
  clear f3 hX4 hS4 hsn
  have hTh := block_there B4o.out 0 1 (Nat.le_refl 1)
  go_upto_region 7 with (refine wpList_store_mid rfl 35 _ _ rfl w.heap.size 0 #[.slice sa sn sc] rfl rfl hTh (by kernel_rfl) (by simp [Value.oneCell']) ?_)
  go_frame
  obtain ⟨u5, hu5⟩ := nam (u4.setCells w.heap.size 0 [.slice sa sn sc]))
 rw [hu5]
 first
 |(
  guard_hyp z369940a
  have B5o : Block u5 w.heap.size [.slice none 0 0] 35 := by
   rw [← hu5]
   exact (((B4o.out.of_heap (w' := u4.drew) rfl).setCells [.slice none 0 0] 0).of_heap (Below.heap_setCell _ ⟨w.heap.size + 1, 0, none⟩ _ _ (by show w.heap.size ≠ w.heap.size + 1; omega))).of_heap (Below.heap_setCell _ ⟨w.heap.size + 1 + 1, 0, none⟩ _ _ (by show w.heap.size ≠ w.heap.size + 1 + 1; omega))
  have B5a : Block u5 (w.heap.size + 1) [.int .i64 y9.2] 3 := by
   rw [← hu5]
   exact (((B4a.out.of_heap (w' := u4.drew) rfl).of_heap (cells_other (by omega) [.slice none 0 0] 0 _)).set 0 _).of_heap (Below.heap_setCell _ ⟨w.heap.size + 1 + 1, 0, none⟩ _ _ (by show w.heap.size + 1 ≠ w.heap.size + 1 + 1; omega))
  have B5e : Block u5 (w.heap.size + 1 + 1) [.int .i64 1] 24 := by
   rw [← hu5]
   exact (((B4e.out.of_heap (w' := u4.drew) rfl).of_heap (cells_other (by omega) [.slice none 0 0] 0 _)).of_heap (Below.heap_setCell _ ⟨w.heap.size + 1, 0, none⟩ _ _ (by show w.heap.size + 1 + 1 ≠ w.heap.size + 1; omega))).set 0 _
  have BE5 : Below w.heap.size w u5 := by
   rw [← hu5]
   exact Below.setCell (Below.setCell (below_setCells (Nat.le_refl _) _ 0 _ BE4.out.drew) (by show w.heap.size ≤ w.heap.size + 1; omega) _) (by show w.heap.size ≤ w.heap.size + 1 + 1; omega) _
  have v0 := B5o.cell (i := 0) rfl
  have v1 := B5a.cell (i := 0) rfl
  have v2 := B5e.cell (i := 0) rfl
  have BE5' := Lib.hid BE5
  clear hu5 B5o B5a B5e BE5
  simp [Leaves, settle, results, Tryz.results11, go_sem, v0, v1, v2]
  exact ⟨k9, y9.1, y9.2, f1, f2, rfl, BE5'.out⟩)
 |(
  have z5 : u5.heap.size = u4.heap.size := by rw [← hu5]; exact setCells_sz _ _ _
  have B5o := Lib.hid (show Block u5 w.heap.size [.slice sa sn sc] 35 from by rw [← hu5]; exact B4o.out.all _ rfl)
  have B5a := Lib.hid (B4a.out.of_heap (w' := u5) (by rw [← hu5]; exact cells_other (by omega) _ 0 _))
  have B5e := Lib.hid (B4e.out.of_heap (w' := u5) (by rw [← hu5]; exact cells_other (by omega) _ 0 _))
  have BE5 := Lib.hid (show Below w.heap.size w u5 from by rw [← hu5]; exact below_setCells (Nat.le_refl _) _ 0 _ BE4.out)
  have V5 := Lib.hid (V4.out.same (w1 := u5) (fun b hb => by rw [← hu5]; exact cells_other (fun e => absurd (HS4.out b hb) (by omega)) _ 0 _))
  clear hu5 hTh
  have CR := Lib.hid (HRT.out _ u5 BE5.out V5.out.is)
  have hRg := B5o.out.rng
  go_wp2_with (first | (refine wpList_load_mid rfl 35 _ rfl w.heap.size 0 rfl [.slice sa sn sc] _ hRg Tryz.underlying35 rfl (by kernel_rfl) ?_) | (go_at_call 30; refine Stand.out ?_))
  refine Stand.mk ?_
  refine CR.out.mono ?_
  rintro e u6 ⟨rfl, hb6⟩
  have z6 := hb6.size
  have B6o := Lib.hid (B5o.out.below hb6 B5o.out.lt)
  have B6a := Lib.hid (B5a.out.below hb6 B5a.out.lt)
  have B6e := Lib.hid (B5e.out.below hb6 B5e.out.lt)
  have BE6 := Lib.hid (BE5.out.trans (hb6.mono (by omega)))
  have V6 := Lib.hid (V5.out.below hb6)
  clear hb6 hRg
  cases rb with
  | true =>
   have z910990a := trivial
   exact Sq910990
  | false =>
   exact Sq910990)) : P := h
theorem Sq910990 {P : Prop} (h : P := by
 first
 | (guard_hyp z910990a; go_upto_region 9 with fail)
 | (go_upto_region 8 with fail)
 have hTh := block_there B6o.out 0 1 (Nat.le_refl 1)
 first
 |(
  guard_hyp z910990a
  have hRg := B6o.out.rng
  go_wp2_with (first | (refine wpList_load_mid rfl 35 _ rfl w.heap.size 0 rfl [.slice sa sn sc] _ hRg Tryz.underlying35 rfl (by kernel_rfl) ?_) | (refine wpList_store_mid rfl 35 _ _ rfl w.heap.size 0 #[.slice sa sn sc] rfl rfl hTh (by kernel_rfl) (by simp [Value.oneCell']) ?_; refine Stand.out ?_)))
 | (go_wp2_with (first | (refine wpList_store_mid rfl 35 _ _ rfl w.heap.size 0 #[.slice none 0 0] rfl rfl hTh (by kernel_rfl) (by simp [Value.oneCell']) ?_; refine Stand.out ?_)))
 refine Stand.mk ?_
 first
 | (guard_hyp z910990a; obtain ⟨u7, hu7⟩ : ∃ u, u6.setCells w.heap.size 0 ((#[.slice sa sn sc] : Array Value).toList) = u := ⟨_, rfl⟩)
 | (obtain ⟨u7, hu7⟩ : ∃ u, u6.setCells w.heap.size 0 ((#[.slice none 0 0] : Array Value).toList) = u := ⟨_, rfl⟩)
 rw [hu7]
 first
 | (guard_hyp z910990a; have B7o := Lib.hid (show Block u7 w.heap.size [.slice sa sn sc] 35 from by rw [← hu7]; exact B6o.out.all _ rfl))
 | (have B7o := Lib.hid (show Block u7 w.heap.size [.slice none 0 0] 35 from by rw [← hu7]; exact B6o.out.all _ rfl))
 have B7a := Lib.hid (B6a.out.of_heap (w' := u7) (by rw [← hu7]; exact cells_other (by omega) _ 0 _))
 have B7e := Lib.hid (B6e.out.of_heap (w' := u7) (by rw [← hu7]; exact cells_other (by omega) _ 0 _))
 have BE7 := Lib.hid (show Below w.heap.size w u7 from by rw [← hu7]; exact below_setCells (Nat.le_refl _) _ 0 _ BE6.out)
 have V7 := Lib.hid (V6.out.same (w1 := u7) (fun b hb => by rw [← hu7]; exact cells_other (fun e => absurd (HS4.out b hb) (by omega)) _ 0 _))
 clear hu7 hTh
 have c1 := B7a.out.cell (i := 0) rfl
 have c2 := B7e.out.cell (i := 0) rfl
 have d1 := B7a.out.free 0
 have d2 := B7e.out.free 0
 go_wp2_with fail
 clear c1 c2 d1 d2
 first
 | (guard_hyp z910990a; obtain ⟨u8, hu8⟩ : ∃ u, (u7.setCell ⟨w.heap.size + 1, 0, none⟩ (.int .i64 0)).setCell ⟨w.heap.size + 1 + 1, 0, none⟩ (.int .i64 0) = u := ⟨_, rfl⟩)
 | (obtain ⟨u8, hu8⟩ : ∃ u, (u7.setCell ⟨w.heap.size + 1, 0, none⟩ (.int .i64 0)).setCell ⟨w.heap.size + 1 + 1, 0, none⟩ (.int .i64 8) = u := ⟨_, rfl⟩)
 rw [hu8]
 have hk8 : ∀ q, q ≠ w.heap.size + 1 → q ≠ w.heap.size + 1 + 1 → u8.heap[q]? = u7.heap[q]? := fun q h1 h2 => by rw [← hu8, Below.heap_setCell _ ⟨w.heap.size + 1 + 1, 0, none⟩ _ q h2, Below.heap_setCell _ ⟨w.heap.size + 1, 0, none⟩ _ q h1]
 have B8o := B7o.out.of_heap (w' := u8) (hk8 _ (by omega) (by omega))
 have B8a : Block u8 (w.heap.size + 1) [.int .i64 0] 3 := by rw [← hu8]; exact (B7a.out.set 0 _).of_heap (Below.heap_setCell _ ⟨w.heap.size + 1 + 1, 0, none⟩ _ _ (by show w.heap.size + 1 ≠ w.heap.size + 1 + 1; omega))
 first
 | (guard_hyp z910990a; have B8e : Block u8 (w.heap.size + 1 + 1) [.int .i64 0] 24 := by rw [← hu8]; exact (B7e.out.of_heap (Below.heap_setCell _ ⟨w.heap.size + 1, 0, none⟩ _ _ (by show w.heap.size + 1 + 1 ≠ w.heap.size + 1; omega))).set 0 _)
 | (have B8e : Block u8 (w.heap.size + 1 + 1) [.int .i64 8] 24 := by rw [← hu8]; exact (B7e.out.of_heap (Below.heap_setCell _ ⟨w.heap.size + 1, 0, none⟩ _ _ (by show w.heap.size + 1 + 1 ≠ w.heap.size + 1; omega))).set 0 _)
 have BE8 := Lib.hid (show Below w.heap.size w u8 from by rw [← hu8]; exact Below.setCell (Below.setCell BE7.out (by show w.heap.size ≤ w.heap.size + 1; omega) _) (by show w.heap.size ≤ w.heap.size + 1 + 1; omega) _)
 have V8 := Lib.hid (V7.out.same (w1 := u8) (fun b hb => hk8 b (fun e => absurd (HS4.out b hb) (by omega)) (fun e => absurd (HS4.out b hb) (by omega))))
 have v0 := B8o.cell (i := 0) rfl
 have v1 := B8a.cell (i := 0) rfl
 have v2 := B8e.cell (i := 0) rfl
 clear hu8 hk8 B8o B8a B8e
 refine leaves_cons (f := 28) (args := #[.pointer (some ⟨w.heap.size, 0, none⟩), .pointer (some ⟨w.heap.size + 1, 0, none⟩), .pointer (some ⟨w.heap.size + 1 + 1, 0, none⟩)]) (by simp) (by simp [go_sem]) ?_
 refine (catch_idle _ _ _ u8).mono ?_
 rintro e u' w'' ⟨rfl, rfl, rfl⟩
 simp [Leaves, settle, results, Tryz.results11, go_sem, v0, v1, v2]
 first
 | (guard_hyp z910990a; exact ⟨BE8.out, S4, fun b hb => by have := HS4.out b hb; omega, V8.out⟩)
 | (exact BE8.out)) : P := h
set_option maxHeartbeats 16000000 in
theorem parse_bad {f : Nat} (s : ByteArray) (L : List (Tok × Nat)) (w : World) (HS : ScanOk L s w) (hT : Tk L) (h0 : 0 < L.length) (hL : L.length ≤ 4097) (hTl : ∀ (j : Nat) y, L[j]? = some y → y.1.t.length ≤ 4294967296) (r : List Tok) (hr : run (f + 1) (.stmt []) (rem L 0) = some (.bad r)) :
    Calls Tryz.prog 11 #[.string s] w fun e w' => ∃ k y, L[k]? = some y ∧ r = rem L k ∧ e = .returned (.tuple #[.agg #[.slice none 0 0], .int .i64 y.2, .int .i64 1]) ∧ Below w.heap.size w w' := by
 have z369940a := trivial
 exact Sq369940
set_option maxHeartbeats 16000000 in
theorem parse_ok {f : Nat} (s : ByteArray) (L : List (Tok × Nat)) (w : World) (HS : ScanOk L s w) (hT : Tk L) (h0 : 0 < L.length) (hL : L.length ≤ 4097) (hTl : ∀ (j : Nat) y, L[j]? = some y → y.1.t.length ≤ 4294967296) (v : V) (r : List Tok) (rb : Bool) (HRt : RightIs v rb w) (hr : run (f + 1) (.stmt []) (rem L 0) = some (.ok v r)) :
    Calls Tryz.prog 11 #[.string s] w fun e w' => Below w.heap.size w w' ∧ if rb = true then ∃ S cs, e = .returned (.tuple #[.agg (List.toArray cs), .int .i64 0, .int .i64 0]) ∧ (∀ b, S b → w.heap.size ≤ b) ∧ HG (fun u => RSm u cs ⟨v.clauses⟩) S w' else e = .returned (.tuple #[.agg #[.slice none 0 0], .int .i64 0, .int .i64 8]) := by
 have z369940b := trivial
 exact Sq369940
def ScanBad (p x : Int) (s : ByteArray) (w : World) : Prop := ∀ w0, Below w.heap.size w w0 → Calls Tryz.prog 7 #[.string s] w0 fun e w' => e = .returned (.tuple #[.slice none 0 0, .int .i64 p, .int .i64 x]) ∧ Below w0.heap.size w0 w'
set_option maxHeartbeats 16000000 in
theorem parse_scan (s : ByteArray) (p x : Int) (w : World) (hx : x ≠ 0) (HS : ScanBad p x s w) :
    Calls Tryz.prog 11 #[.string s] w fun e w' => e = .returned (.tuple #[.agg #[.slice none 0 0], .int .i64 p, .int .i64 x]) ∧ Below w.heap.size w w' := by
 have hmf : ∀ (fn : Fn) (first cap : Array Value) (w : World), (Instr.makeFunc fn first cap).run Tryz.prog w = .ok (.func fn first cap) w := fun _ _ _ _ => rfl
 obtain ⟨y0, hy0⟩ := nam (w.alloc (.cells #[.slice none 0 0] 35))
 obtain ⟨y1, hy1⟩ := nam (y0.alloc (.cells #[.int .i64 0] 3))
 obtain ⟨u0, hu0⟩ := nam (y1.alloc (.cells #[.int .i64 0] 24))
 have z0 : y0.heap.size = w.heap.size + 1 := by rw [← hy0]; simp
 have z1 : y1.heap.size = w.heap.size + 2 := by rw [← hy1]; simp; omega
 have zu0 : u0.heap.size = w.heap.size + 3 := by rw [← hu0]; simp; omega
 have be0 : Below w.heap.size w u0 := by rw [← hu0, ← hy1, ← hy0]; exact (((Below.refl _ _).alloc (Nat.le_refl _) _).alloc (by simp) _).alloc (by simp; omega) _
 have b0 : Block u0 w.heap.size [.slice none 0 0] 35 := by rw [← hu0, ← hy1, ← hy0]; exact ((Block.new w _ _).alloc _).alloc _
 have b1 : Block u0 (w.heap.size + 1) [.int .i64 0] 3 := by rw [← hu0, ← hy1, ← z0]; exact (Block.new y0 _ _).alloc _
 have b2 : Block u0 (w.heap.size + 2) [.int .i64 0] 24 := by rw [← hu0, ← z1]; exact Block.new y1 _ _
 have HU : Hid (((w.alloc (.cells #[.slice none 0 0] 35)).alloc (.cells #[.int .i64 0] 3)).alloc (.cells #[.int .i64 0] 24) = u0) := Lib.hid (by rw [hy0, hy1, hu0])
 have BE0 := Lib.hid be0
 have CS := Lib.hid (HS u0 be0)
 have B0o := Lib.hid b0
 have B0a := Lib.hid b1
 have B0e := Lib.hid b2
 clear hy0 hy1 hu0 be0 b0 b1 b2 HS
 go_enter_defers Tryz.func11, Tryz.ntmps11
 go_upto_region 1 with fail
 rw [HU.out]
 go_wp2_with (go_at_call 7; refine Stand.out ?_)
 refine Stand.mk ?_
 refine CS.out.mono ?_
 rintro e u1 ⟨rfl, hb1⟩
 have zb1 := hb1.size
 have BE1 := Lib.hid (BE0.out.trans (hb1.mono BE0.out.size))
 have B1o := Lib.hid (B0o.out.below hb1 B0o.out.lt)
 have B1a := Lib.hid (B0a.out.below hb1 B0a.out.lt)
 have B1e := Lib.hid (B0e.out.below hb1 B0e.out.lt)
 clear hb1
 have c1 := B1a.out.cell (i := 0) rfl
 have c2 := B1e.out.cell (i := 0) rfl
 have d1 := B1a.out.free 0
 have d2 := B1e.out.free 0
 go_upto_region 2 with fail
 clear c1 c2 d1 d2
 obtain ⟨u2, hu2⟩ : ∃ u, (u1.setCell ⟨w.heap.size + 1, 0, none⟩ (.int .i64 p)).setCell ⟨w.heap.size + 2, 0, none⟩ (.int .i64 x) = u := ⟨_, rfl⟩
 rw [hu2]
 have zu2 : u2.heap.size = u1.heap.size := by rw [← hu2]; simp [World.size_setCell]
 have hk2 : ∀ q, q ≠ w.heap.size + 1 → q ≠ w.heap.size + 2 → u2.heap[q]? = u1.heap[q]? := fun q h1 h2 => by rw [← hu2, Below.heap_setCell _ ⟨w.heap.size + 2, 0, none⟩ _ q h2, Below.heap_setCell _ ⟨w.heap.size + 1, 0, none⟩ _ q h1]
 have BE2 := Lib.hid (show Below w.heap.size w u2 from by rw [← hu2]; exact Below.setCell (Below.setCell BE1.out (by show w.heap.size ≤ w.heap.size + 1; omega) _) (by show w.heap.size ≤ w.heap.size + 2; omega) _)
 have B2o := Lib.hid (B1o.out.of_heap (hk2 _ (by omega) (by omega)))
 have B2a := Lib.hid (show Block u2 (w.heap.size + 1) [.int .i64 p] 3 from by rw [← hu2]; exact (B1a.out.set 0 _).of_heap (Below.heap_setCell _ ⟨w.heap.size + 2, 0, none⟩ _ _ (by show w.heap.size + 1 ≠ w.heap.size + 2; omega)))
 have B2e := Lib.hid (show Block u2 (w.heap.size + 2) [.int .i64 x] 24 from by rw [← hu2]; exact (B1e.out.of_heap (Below.heap_setCell _ ⟨w.heap.size + 1, 0, none⟩ _ _ (by show w.heap.size + 2 ≠ w.heap.size + 1; omega))).set 0 _)
 clear hu2 hk2
 have e4 := B2e.out.cell (i := 0) rfl
 have hxb : (x != 0) = true := by simpa using hx
 go_upto_region 3 with fail
 obtain ⟨u3, hu3⟩ := nam u2.drew
 have B3o := Lib.hid (B2o.out.of_heap (w' := u3) (by rw [← hu3]; rfl))
 have B3a := Lib.hid (B2a.out.of_heap (w' := u3) (by rw [← hu3]; rfl))
 have B3e := Lib.hid (B2e.out.of_heap (w' := u3) (by rw [← hu3]; rfl))
 have BE3 := Lib.hid (show Below w.heap.size w u3 from by rw [← hu3]; exact BE2.out.drew)
 refine wp_region_noPanic ?_
 refine wp_region_J (S := (fun w' : World => w'.cell? ⟨w.heap.size + 1, 0, none⟩ = some (.int .i64 p) ∧ w'.cell? ⟨w.heap.size + 1 + 1, 0, none⟩ = some (.int .i64 x))) (fun j => j == 5) (by kernel_rfl) ?_
 rw [hu3]
 clear hu3 e4
 have hHeld : (fun w' : World => w'.cell? ⟨w.heap.size + 1, 0, none⟩ = some (.int .i64 p) ∧ w'.cell? ⟨w.heap.size + 1 + 1, 0, none⟩ = some (.int .i64 x)) u3 := ⟨B3a.out.cell (i := 0) rfl, B3e.out.cell (i := 0) rfl⟩
 refine Jt 0 ?_
 refine Jl 1 ?_
 refine Jl 2 ?_
 refine Jr 3 fun KK hKK => ?_
 have hTh := block_there B3o.out 0 1 (Nat.le_refl 1)
 refine step_store_mid (by rfl) 35 _ _ (by rfl) w.heap.size 0 #[.slice none 0 0] (by rfl) (by rfl) hTh (by kernel_rfl) (by simp [Value.oneCell']) ?_
 obtain ⟨u4, hu4⟩ : ∃ u, u3.setCells w.heap.size 0 ((#[.slice none 0 0] : Array Value).toList) = u := ⟨_, rfl⟩
 have B4o := Lib.hid (show Block u4 w.heap.size [.slice none 0 0] 35 from by rw [← hu4]; exact B3o.out.all _ rfl)
 have B4a := Lib.hid (B3a.out.of_heap (w' := u4) (by rw [← hu4]; exact cells_other (by omega) _ 0 _))
 have B4e := Lib.hid (B3e.out.of_heap (w' := u4) (by rw [← hu4]; exact cells_other (by omega) _ 0 _))
 have BE4 := Lib.hid (show Below w.heap.size w u4 from by rw [← hu4]; exact below_setCells (Nat.le_refl _) _ 0 _ BE3.out)
 rw [hu4]
 clear hu4 hTh
 refine hKK _ _ (fun _ _ => ⟨B4a.out.cell (i := 0) rfl, B4e.out.cell (i := 0) rfl⟩) ?_
 clear hKK KK hHeld
 have hHeld : (fun w' : World => w'.cell? ⟨w.heap.size + 1, 0, none⟩ = some (.int .i64 p) ∧ w'.cell? ⟨w.heap.size + 1 + 1, 0, none⟩ = some (.int .i64 x)) u4 := ⟨B4a.out.cell (i := 0) rfl, B4e.out.cell (i := 0) rfl⟩
 refine Jn ?_
 refine Jr 4 fun KK hKK => ?_
 have c0 := B4a.out.cell (i := 0) rfl
 have d0 := B4a.out.free 0
 go_simp
 clear c0 d0
 obtain ⟨u5, hu5⟩ : ∃ u, u4.setCell ⟨w.heap.size + 1, 0, none⟩ (.int .i64 p) = u := ⟨_, rfl⟩
 have B5o := Lib.hid (B4o.out.of_heap (w' := u5) (by rw [← hu5]; exact Below.heap_setCell _ ⟨w.heap.size + 1, 0, none⟩ _ _ (by show w.heap.size ≠ w.heap.size + 1; omega)))
 have B5a := Lib.hid (show Block u5 (w.heap.size + 1) [.int .i64 p] 3 from by rw [← hu5]; exact B4a.out.set 0 _)
 have B5e := Lib.hid (B4e.out.of_heap (w' := u5) (by rw [← hu5]; exact Below.heap_setCell _ ⟨w.heap.size + 1, 0, none⟩ _ _ (by show w.heap.size + 2 ≠ w.heap.size + 1; omega)))
 have BE5 := Lib.hid (show Below w.heap.size w u5 from by rw [← hu5]; exact Below.setCell BE4.out (by show w.heap.size ≤ w.heap.size + 1; omega) _)
 rw [hu5]
 clear hu5
 refine hKK _ _ (fun _ _ => ⟨B5a.out.cell (i := 0) rfl, B5e.out.cell (i := 0) rfl⟩) ?_
 clear hKK KK hHeld
 have hHeld : (fun w' : World => w'.cell? ⟨w.heap.size + 1, 0, none⟩ = some (.int .i64 p) ∧ w'.cell? ⟨w.heap.size + 1 + 1, 0, none⟩ = some (.int .i64 x)) u5 := ⟨B5a.out.cell (i := 0) rfl, B5e.out.cell (i := 0) rfl⟩
 refine Jn ?_
 refine Jr 5 fun KK hKK => ?_
 have c0 := B5e.out.cell (i := 0) rfl
 have d0 := B5e.out.free 0
 go_simp
 clear c0 d0
 obtain ⟨u6, hu6⟩ : ∃ u, u5.setCell ⟨w.heap.size + 1 + 1, 0, none⟩ (.int .i64 x) = u := ⟨_, rfl⟩
 have B6o := Lib.hid (B5o.out.of_heap (w' := u6) (by rw [← hu6]; exact Below.heap_setCell _ ⟨w.heap.size + 1 + 1, 0, none⟩ _ _ (by show w.heap.size ≠ w.heap.size + 1 + 1; omega)))
 have B6a := Lib.hid (B5a.out.of_heap (w' := u6) (by rw [← hu6]; exact Below.heap_setCell _ ⟨w.heap.size + 1 + 1, 0, none⟩ _ _ (by show w.heap.size + 1 ≠ w.heap.size + 1 + 1; omega)))
 have B6e := Lib.hid (show Block u6 (w.heap.size + 2) [.int .i64 x] 24 from by rw [← hu6]; exact B5e.out.set 0 _)
 have BE6 := Lib.hid (show Below w.heap.size w u6 from by rw [← hu6]; exact Below.setCell BE5.out (by show w.heap.size ≤ w.heap.size + 1 + 1; omega) _)
 rw [hu6]
 clear hu6
 refine hKK _ _ (fun h => absurd h (by decide)) ?_
 clear hKK KK hHeld
 refine Jn ?_
 refine wpAnyJ_done (by kernel_rfl) ?_ _
 refine NoPanic.normal ?_
 have v0 := B6o.out.cell (i := 0) rfl
 have v1 := B6a.out.cell (i := 0) rfl
 have v2 := B6e.out.cell (i := 0) rfl
 have BE6x := Lib.hid BE6.out
 go_wp2_with fail
 simp [bodyPostD, Leaves, settle, results, Tryz.results11, go_sem, v0, v1, v2]
 exact BE6x.out
def Phi : List Tok → Nat
  | [] => 0
  | t :: r => 16 + 16 * t.t.length + Phi r
theorem phi_tl (l : List Tok) : Phi l.tail ≤ Phi l := by
 cases l with
 | nil => exact Nat.le_refl _
 | cons t r => show Phi r ≤ 16 + 16 * t.t.length + Phi r; omega
theorem phi_nx {l : List Tok} (h : (nx l).k ≠ 6) : Phi l = 16 + 16 * (nx l).t.length + Phi l.tail := by
 cases l with
 | nil => exact absurd rfl h
 | cons t r => rfl
theorem phi_is {K : Nat} {s : List UInt8} {l : List Tok} (hK : K ≠ 6) (h : isT K s l = true) : Phi l = 16 + 16 * s.length + Phi l.tail := by
 have e := isT_kind h
 rw [phi_nx (by rw [e.1]; exact hK), e.2]
theorem phi_may (l : List Tok) : Phi (mayN l).2 + (mayN l).1.size ≤ Phi l := by
 unfold mayN
 split
 ·rename_i h
  have h2 : Phi l = 16 + 16 * (nx l).t.length + Phi l.tail := phi_nx (by rw [h]; decide)
  show Phi l.tail + (strOf (nx l).t).size ≤ Phi l
  rw [strOf_size]; omega
 ·exact Nat.le_refl _
def wG : G → V → Nat
  | .expr _, v | .loop _ _ _, v | .unary _, v | .post _, v | .atom, v => 2 * wtX v.ex
  | .list _, v | .items _ _, v | .maybe _, v => 2 * wtXs v.exs
  | .props, v | .pairs _ _, v => 2 * wtS v.strs + 2 * wtXs v.exs
  | .labels _, v | .vars _, v => wtS v.strs
  | .node, v => wtNp v.node
  | .edge, v | .edgeP _ _ _, v | .edgeE _ _ _ _ _, v => wtEp v.edge
  | .path, v | .segs _ _, v => wtPt v.path
  | .paths, v | .more _, v => (v.paths.map wtPt).sum
  | .item, v => wtIt v.item
  | .its _, v => (v.items.map wtIt).sum
  | .sorts, v | .sortL _, v => (v.sorts.map wtSo).sum
  | .rows _, v | .clause _, v => wtCl v.clause
  | .setL _ _, v => (v.sets.map wtSi).sum
  | .stmt _, v => (v.clauses.map wtCl).sum
def inG : G → Nat
  | .loop _ _ t | .post t => 2 * wtX t
  | .items _ l => 2 * wtXs l
  | .pairs ks vs => 2 * wtS ks + 2 * wtXs vs
  | .labels l | .vars l => wtS l
  | .edgeP _ a b => 1 + a.size + b.size
  | .edgeE _ a b ks vs => 1 + a.size + b.size + wtS ks + wtXs vs
  | .segs ns es => 1 + (ns.map wtNp).sum + (es.map wtEp).sum
  | .more l => (l.map wtPt).sum
  | .its l => (l.map wtIt).sum
  | .sortL l => (l.map wtSo).sum
  | .setL _ l => (l.map wtSi).sum
  | .stmt l => (l.map wtCl).sum
  | .clause _ => 8
  | _ => 0
def slG : G → Nat
  | .expr _ | .unary _ | .atom | .node => 8
  | .edge | .item | .path => 4
  | .props => 16
  | _ => 0
def Wt (o : O) (m : V → Nat) (c n : Nat) : Prop := ∀ v r, o = some (.ok v r) → m v + Phi r + c ≤ n
section
variable {o : O} {m m1 : V → Nat} {c c1 n n1 : Nat} {l : List Tok}
theorem wt_ok {v : V} {r : List Tok} (h : m v + Phi r + c ≤ n) : Wt (okP v r) m c n := fun v' r' e => by cases e; exact h
theorem wt_bad {r : List Tok} : Wt (some (.bad r)) m c n := fun v' r' e => by cases e
theorem wt_bnd {K : V → List Tok → O} (h1 : Wt o m1 c1 n1) (hk : ∀ v r, m1 v + Phi r + c1 ≤ n1 → Wt (K v r) m c n) : Wt (bnd o K) m c n := fun v' r' e => by
  cases o with
  | none => cases e
  | some p => cases p with
    | ok v r => exact hk v r (h1 v r rfl) v' r' e
    | bad r => cases e
theorem wt_must {K : Nat} {s : List UInt8} {k : List Tok → O} (hK : K ≠ 6) (hk : Phi l = 16 + 16 * s.length + Phi l.tail → Wt (k l.tail) m c n) : Wt (must (isT K s l) l k) m c n := by
 unfold must
 split
 ·rename_i h; exact hk (phi_is hK h)
 ·exact wt_bad
theorem wt_key {k : ByteArray → List Tok → O} (hk : ∀ s, Phi l = 16 + 16 * s.size + Phi l.tail → Wt (k s l.tail) m c n) : Wt (keyP l k) m c n := by
 unfold keyP
 split
 ·rename_i h; exact hk _ (by rw [strOf_size]; exact phi_nx (by omega))
 ·exact wt_bad
theorem wt_name {k : ByteArray → List Tok → O} (hk : ∀ s, Phi l = 16 + 16 * s.size + Phi l.tail → Wt (k s l.tail) m c n) : Wt (nameP l k) m c n := by
 unfold nameP
 split
 ·rename_i h; exact hk _ (by rw [strOf_size]; exact phi_nx (by omega))
 ·exact wt_bad
theorem wt_is {K : Nat} {s : List UInt8} {a b : O} (hK : K ≠ 6) (h1 : Phi l = 16 + 16 * s.length + Phi l.tail → Wt a m c n) (h2 : Wt b m c n) : Wt (if isT K s l = true then a else b) m c n := by
 split
 ·rename_i h; exact h1 (phi_is hK h)
 ·exact h2
theorem wt_kind {K : Nat} {a b : O} (hK : K ≠ 6) (h1 : Phi l = 16 + 16 * (strOf (nx l).t).size + Phi l.tail → Wt a m c n) (h2 : Wt b m c n) : Wt (if (nx l).k = K then a else b) m c n := by
 split
 ·rename_i h; exact h1 (by rw [strOf_size]; exact phi_nx (by rw [h]; exact hK))
 ·exact h2
end
theorem wtS_nil : wtS [] = 0 := rfl
theorem wtS_snoc (a : List ByteArray) (b : ByteArray) : wtS (a ++ [b]) = wtS a + (b.size + 1) := by unfold wtS; simp
theorem wtXs_snoc (a : List Ex) (b : Ex) : wtXs (a ++ [b]) = wtXs a + wtX b := by rw [wtXs_sum, wtXs_sum]; simp
theorem sz0 : (⟨#[]⟩ : ByteArray).size = 0 := rfl
theorem wtX_mk (op : Int) (nm : ByteArray) (v : Vt) (ns : List ByteArray) (az : List Ex) : wtX (.mk op nm v ns az) = 1 + nm.size + wtV v + wtS ns + wtXs az := by rw [wtX]
theorem wtXs_cons (t : Ex) (l : List Ex) : wtXs (t :: l) = wtX t + wtXs l := by rw [wtXs]
theorem wtXs_nil : wtXs [] = 0 := by rw [wtXs]
theorem wtV_mk (k : Int) (b : Bool) (i : Int) (s : ByteArray) : wtV (.mk k b i s [] []) = 1 + s.size := by
 rw [wtV, wtVs]; simp
theorem wtV_pos' (t : Vt) : 1 ≤ wtV t := by cases t; rw [wtV]; omega
theorem wtV_e : wtV emptyV = 1 := by unfold emptyV; rw [wtV_mk, sz0]
theorem wt_mn (op : Int) (nm : ByteArray) (l : List Ex) : wtX (mE op nm l) = 2 + nm.size + wtXs l := by unfold mE; rw [wtX_mk, wtV_e, wtS_nil]; omega
theorem wt_mv (k : Int) (b : Bool) (i : Int) (s : ByteArray) : wtX (mV (.mk k b i s [] [])) = 2 + s.size := by unfold mV; rw [wtX_mk, wtV_mk, wtS_nil, wtXs_nil, sz0]; omega
theorem wt_me : wtX (mV emptyV) = 2 := by unfold emptyV; rw [wt_mv, sz0]
theorem nm_le (t : Ex) : (nameX t).size + 2 ≤ wtX t := by
 obtain ⟨op, nm, v, ns, az⟩ := t
 rw [wtX_mk]
 have := wtV_pos' v
 show nm.size + 2 ≤ _
 omega
theorem wt_map (ks : List ByteArray) (vs : List Ex) : wtX (.mk 6 ⟨#[]⟩ emptyV ks vs) = 2 + wtS ks + wtXs vs := by rw [wtX_mk, wtV_e, sz0]
theorem wt_e : wtX emptyX = 2 := by
 have h : emptyX = mE 0 ⟨#[]⟩ [] := rfl
 rw [h, wt_mn, sz0, wtXs_nil]
end Go.Proofs.YteljlahcdipilaaGreat

/- The texts G41 of this seat, one behind the other. Conditions: each says its own. -/
import Derived.Test.YtoakloicjlfaaaaRGraphAsks1

/- Layer 14: the law GraphAsks as a call. Conditions: what is read is small. -/
namespace Go.Proofs.Ytoakloicjlfaaaa
open Go.RowKit
set_option linter.unusedSimpArgs false
set_option linter.unusedVariables false
set_option maxRecDepth 100000

set_option maxHeartbeats 2000000 in
theorem sameNode2_any (n m : Nt) (cs ds : List Value) (B : Nat) (w : World) (hn : IsN B w cs n) (hm : IsN B w ds m) (hB : B ≤ w.heap.size) :
    Calls Try.prog 25 #[.agg cs.toArray, .agg ds.toArray] w fun e w' => e = .returned (.bool (sameN n m)) ∧ Below w.heap.size w w' := by
  have hn0 := hn
  have hm0 := hm
  obtain ⟨la, lc, ka, kc, va, vc, rfl⟩ := node_cells hn0
  obtain ⟨mla, mlc, mka, mkc, mva, mvc, rfl⟩ := node_cells hm0
  show Calls Try.prog 25 #[.agg #[.int .i64 n.id, .slice la n.labels.length lc, .slice ka n.keys.length kc, .slice va n.vals.length vc], .agg #[.int .i64 m.id, .slice mla m.labels.length mlc, .slice mka m.keys.length mkc, .slice mva m.vals.length mvc]] w _
  obtain ⟨W0, hW0⟩ : ∃ W0, (w.alloc (.cells #[.int .i64 n.id, .slice la n.labels.length lc, .slice ka n.keys.length kc, .slice va n.vals.length vc] 38)).alloc (.cells #[.int .i64 m.id, .slice mla m.labels.length mlc, .slice mka m.keys.length mkc, .slice mva m.vals.length mvc] 38) = W0 := ⟨_, rfl⟩
  have HBX : Hid (Bx w [([.int .i64 n.id, .slice la n.labels.length lc, .slice ka n.keys.length kc, .slice va n.vals.length vc], 38), ([.int .i64 m.id, .slice mla m.labels.length mlc, .slice mka m.keys.length mkc, .slice mva m.vals.length mvc], 38)] W0) := Lib.hid (by rw [← hW0]; exact (((Bx.nil w).alloc rfl _ _).alloc (by simp) _ _))
  have HW0 := Lib.hid hW0
  have HC := Lib.hid (sameN_any n m _ _ B W0 (hn.below HBX.out.bel hB) (hm.below HBX.out.bel hB) (Nat.le_trans hB HBX.out.bel.size))
  have i0_0 := HBX.out.cell 0 0 rfl rfl
  have i0_1 := HBX.out.cell 0 1 rfl rfl
  have i0_2 := HBX.out.cell 0 2 rfl rfl
  have i0_3 := HBX.out.cell 0 3 rfl rfl
  have i1_0 := HBX.out.cell 1 0 rfl rfl
  have i1_1 := HBX.out.cell 1 1 rfl rfl
  have i1_2 := HBX.out.cell 1 2 rfl rfl
  have i1_3 := HBX.out.cell 1 3 rfl rfl
  rw [← hW0] at i0_0 i0_1 i0_2 i0_3 i1_0 i1_1 i1_2 i1_3
  clear hn hm hB hW0
  go_enter Try.func25, Try.ntmps25
  go_wp2_with fail
  (try rw [show w.heap.size + 1 + 1 = w.heap.size + 2 from rfl])
  rw [HW0.out]
  refine HC.out.mono ?_
  rintro e w1 ⟨rfl, hb1⟩
  have HBX1 := Lib.hid (HBX.out.below hb1)
  clear hb1 i0_0 i0_1 i0_2 i0_3 i1_0 i1_1 i1_2 i1_3
  go_wp2_with fail
  go_ret
  exact ⟨rfl, HBX1.out.bel⟩
set_option maxHeartbeats 2000000 in
theorem sameEdge2_any (n m : Et) (cs ds : List Value) (B : Nat) (w : World) (hn : IsE B w cs n) (hm : IsE B w ds m) (hB : B ≤ w.heap.size) :
    Calls Try.prog 26 #[.agg cs.toArray, .agg ds.toArray] w fun e w' => e = .returned (.bool (sameE n m)) ∧ Below w.heap.size w w' := by
  have hn0 := hn
  have hm0 := hm
  obtain ⟨ka, kc, va, vc, rfl⟩ := edge_cells hn0
  obtain ⟨mka, mkc, mva, mvc, rfl⟩ := edge_cells hm0
  show Calls Try.prog 26 #[.agg #[.int .i64 n.id, .int .i64 n.src, .int .i64 n.dst, .string n.ty, .slice ka n.keys.length kc, .slice va n.vals.length vc], .agg #[.int .i64 m.id, .int .i64 m.src, .int .i64 m.dst, .string m.ty, .slice mka m.keys.length mkc, .slice mva m.vals.length mvc]] w _
  obtain ⟨W0, hW0⟩ : ∃ W0, (w.alloc (.cells #[.int .i64 n.id, .int .i64 n.src, .int .i64 n.dst, .string n.ty, .slice ka n.keys.length kc, .slice va n.vals.length vc] 40)).alloc (.cells #[.int .i64 m.id, .int .i64 m.src, .int .i64 m.dst, .string m.ty, .slice mka m.keys.length mkc, .slice mva m.vals.length mvc] 40) = W0 := ⟨_, rfl⟩
  have HBX : Hid (Bx w [([.int .i64 n.id, .int .i64 n.src, .int .i64 n.dst, .string n.ty, .slice ka n.keys.length kc, .slice va n.vals.length vc], 40), ([.int .i64 m.id, .int .i64 m.src, .int .i64 m.dst, .string m.ty, .slice mka m.keys.length mkc, .slice mva m.vals.length mvc], 40)] W0) := Lib.hid (by rw [← hW0]; exact (((Bx.nil w).alloc rfl _ _).alloc (by simp) _ _))
  have HW0 := Lib.hid hW0
  have HC := Lib.hid (sameE_any n m _ _ B W0 (hn.below HBX.out.bel hB) (hm.below HBX.out.bel hB) (Nat.le_trans hB HBX.out.bel.size))
  have i0_0 := HBX.out.cell 0 0 rfl rfl
  have i0_1 := HBX.out.cell 0 1 rfl rfl
  have i0_2 := HBX.out.cell 0 2 rfl rfl
  have i0_3 := HBX.out.cell 0 3 rfl rfl
  have i0_4 := HBX.out.cell 0 4 rfl rfl
  have i0_5 := HBX.out.cell 0 5 rfl rfl
  have i1_0 := HBX.out.cell 1 0 rfl rfl
  have i1_1 := HBX.out.cell 1 1 rfl rfl
  have i1_2 := HBX.out.cell 1 2 rfl rfl
  have i1_3 := HBX.out.cell 1 3 rfl rfl
  have i1_4 := HBX.out.cell 1 4 rfl rfl
  have i1_5 := HBX.out.cell 1 5 rfl rfl
  rw [← hW0] at i0_0 i0_1 i0_2 i0_3 i0_4 i0_5 i1_0 i1_1 i1_2 i1_3 i1_4 i1_5
  clear hn hm hB hW0
  go_enter Try.func26, Try.ntmps26
  go_wp2_with fail
  (try rw [show w.heap.size + 1 + 1 = w.heap.size + 2 from rfl])
  rw [HW0.out]
  refine HC.out.mono ?_
  rintro e w1 ⟨rfl, hb1⟩
  have HBX1 := Lib.hid (HBX.out.below hb1)
  clear hb1 i0_0 i0_1 i0_2 i0_3 i0_4 i0_5 i1_0 i1_1 i1_2 i1_3 i1_4 i1_5
  go_wp2_with fail
  go_ret
  exact ⟨rfl, HBX1.out.bel⟩
theorem nodeOf_yes {g : Gt} {id : Int} (hm : MayG g) (h : hasI (idsN g) id = true) : ∃ p : Nat, p < g.nodes.length ∧ idxOf (g.nodes.map (·.id)) id = (p : Int) ∧ g.nodes[p]? = some (nodeOf g id) := by
  have h1 := (hasI_idx hm.riseN id).2 h
  have h2 := posI_lt h
  have h3 : (idsN g).length = g.nodes.length := by unfold idsN; simp
  obtain ⟨x, hx⟩ := get_some (l := g.nodes) (show posI (idsN g) id < g.nodes.length by omega)
  refine ⟨posI (idsN g) id, by omega, h1, ?_⟩
  rw [hx]
  unfold nodeOf
  rw [if_pos h, hx]
  rfl
theorem edgeOf_yes {g : Gt} {id : Int} (hm : MayG g) (h : hasI (idsE g) id = true) : ∃ p : Nat, p < g.edges.length ∧ idxOf (g.edges.map (·.id)) id = (p : Int) ∧ g.edges[p]? = some (edgeOf g id) := by
  have h1 := (hasI_idx hm.riseE id).2 h
  have h2 := posI_lt h
  have h3 : (idsE g).length = g.edges.length := by unfold idsE; simp
  obtain ⟨x, hx⟩ := get_some (l := g.edges) (show posI (idsE g) id < g.edges.length by omega)
  refine ⟨posI (idsE g) id, by omega, h1, ?_⟩
  rw [hx]
  unfold edgeOf
  rw [if_pos h, hx]
  rfl
theorem idxOf_neg {l : List Int} {id : Int} (h : hasI l id = false) (hr : RiseI l) : idxOf l id = -1 := by
  have h1 := (hasI_idx hr id).1
  rw [h] at h1
  have h2 := of_decide_eq_false h1.symm
  unfold idxOf at h2 ⊢
  split at h2
  · omega
  · rfl
theorem nodeOf_no {g : Gt} {id : Int} (h : hasI (idsN g) id = false) : nodeOf g id = zeroN := by unfold nodeOf; rw [if_neg (by rw [h]; simp)]
theorem edgeOf_no {g : Gt} {id : Int} (h : hasI (idsE g) id = false) : edgeOf g id = zeroE := by unfold edgeOf; rw [if_neg (by rw [h]; simp)]
/-- A row of one own node. -/
theorem OwnRw.one {α : Type} {R : World → List Value → α → List Nat → Prop} {size : Nat} (hR : OwnElem R size) {w : World} {cs : List Value} {x : α} {bs : List Nat} {b : Nat} {ty : TypeId} (hb : Block w b cs ty) (hx : R w cs x bs) : OwnRw R size w (some ⟨b, 0, none⟩) [x] (b :: bs) :=
  .inr ⟨b, cs, ty, bs, rfl, rfl, hb, cs, bs, [], by simp, fun j v hv => by rw [Nat.zero_mul, Nat.zero_add]; exact hv, hx, rfl⟩

set_option maxHeartbeats 64000000 in
theorem gasks_any (g : Gt) (id dir : Int) (of : ByteArray) (cs : List Value) (w : World) (hg : IsG w.heap.size w cs g) (hwg : wtG g ≤ 1048576) :
    Calls Try.prog 6 #[.agg cs.toArray, .int .i64 id, .int .i64 dir, .string of] w fun e w' => e = .returned (.bool true) ∧ Below w.heap.size w w' := by
  have hg0 := hg
  obtain ⟨na, nc, ea, ec, rfl, hnz, hez, hN, hE⟩ := hg
  show Calls Try.prog 6 #[.agg #[.slice na g.nodes.length nc, .slice ea g.edges.length ec], .int .i64 id, .int .i64 dir, .string of] w _
  have hsm := smG_of hwg
  obtain ⟨W0, hW0⟩ : ∃ W0, w.alloc (.cells #[.slice na g.nodes.length nc, .slice ea g.edges.length ec] 25) = W0 := ⟨_, rfl⟩
  have hb0 : Below w.heap.size w W0 := by rw [← hW0]; exact (Below.refl _ _).alloc (Nat.le_refl _) _
  have hX0 : Block W0 w.heap.size [.slice na g.nodes.length nc, .slice ea g.edges.length ec] 25 := by rw [← hW0]; exact Block.new w _ _
  have HZ0 : Hid (w.heap.size + 1 = W0.heap.size) := Lib.hid (by rw [← hW0]; simp)
  have HB0 := Lib.hid hb0
  have HX0 := Lib.hid hX0
  have HW0 := Lib.hid hW0
  have HGG := Lib.hid (fun (w' : World) (hb : Below w.heap.size w w') => hg0.below hb (Nat.le_refl _))
  have HNS := Lib.hid (fun (w' : World) (hb : Below w.heap.size w w') => hN.below hb (Nat.le_refl _) (fun _ _ h => h.below hb (Nat.le_refl _)))
  have HES := Lib.hid (fun (w' : World) (hb : Below w.heap.size w w') => hE.below hb (Nat.le_refl _) (fun _ _ h => h.below hb (Nat.le_refl _)))
  have HMY := Lib.hid (fun (w' : World) (hb : Below w.heap.size w w') => rmayG_any g _ _ w' (hg0.below hb (Nat.le_refl _)) hb.size)
  have HNODE := Lib.hid (fun (h : MayG g) (w' : World) (hb : Below w.heap.size w w') => node_any g id _ _ w' (hg0.below hb (Nat.le_refl _)) hb.size h.riseN hsm)
  have HEDGE := Lib.hid (fun (h : MayG g) (w' : World) (hb : Below w.heap.size w w') => edge_any g id _ _ w' (hg0.below hb (Nat.le_refl _)) hb.size h.riseE hsm)
  have HATN := Lib.hid (fun (w' : World) (hb : Below w.heap.size w w') => nodeAt_any g id _ _ w' (hg0.below hb (Nat.le_refl _)) hb.size)
  have HATE := Lib.hid (fun (w' : World) (hb : Below w.heap.size w w') => edgeAt_any g id _ _ w' (hg0.below hb (Nat.le_refl _)) hb.size)
  have HAR := Lib.hid (fun (w' : World) (hb : Below w.heap.size w w') => around_any g id dir of _ _ w' (hg0.below hb (Nat.le_refl _)) hb.size hsm)
  have HRA := Lib.hid (fun (w' : World) (hb : Below w.heap.size w w') => rAround_any g id dir of _ _ w' (hg0.below hb (Nat.le_refl _)) hb.size hsm)
  have HCO := Lib.hid (fun (w' : World) (hb : Below w.heap.size w w') => copyG_any g _ _ w' (hg0.below hb (Nat.le_refl _)) hb.size hsm)
  have HRC := Lib.hid (fun (w' : World) (hb : Below w.heap.size w w') => rCopyG_any g _ _ w' (hg0.below hb (Nat.le_refl _)) hb.size hsm)
  have HLN : Hid (∀ l : List Et, l = aroundG g id dir of → l.length ≤ 1048576) := Lib.hid (fun l hl => by rw [hl]; exact Nat.le_trans (List.length_filter_le _ _) hsm.1.2)
  have HGL := Lib.hid hsm.1
  have hnl : g.nodes.length ≤ 1048576 := hsm.1.1
  have hel : g.edges.length ≤ 1048576 := hsm.1.2
  obtain ⟨Q, hQ⟩ : ∃ Q : Ending → World → Prop, (fun e w' => e = .returned (.bool true) ∧ Below w.heap.size w w') = Q := ⟨_, rfl⟩
  have HQ : Hid (∀ u, Below w.heap.size w u → Q (.returned (.bool true)) u) := Lib.hid (fun u h => by rw [← hQ]; exact ⟨rfl, h⟩)
  rw [hQ]
  have i0 : W0.cell? ⟨w.heap.size, 0, none⟩ = some (.slice na g.nodes.length nc) := hX0.cell rfl
  have i1 : W0.cell? ⟨w.heap.size, 1, none⟩ = some (.slice ea g.edges.length ec) := hX0.cell rfl
  rw [← hW0] at i0 i1
  clear hQ hW0 hg0 hN hE hnz hez hsm hwg hX0 hb0
  go_enter Try.func6, Try.ntmps6
  go_wp2_with fail
  rw [HW0.out]
  refine (HMY.out _ HB0.out).mono ?_
  rintro e w1 ⟨rfl, hb1⟩
  clear i0 i1
  have HB1 := Lib.hid (HB0.out.trans (hb1.mono HB0.out.size))
  have HX1 := Lib.hid (HX0.out.below hb1 HX0.out.lt)
  have HZ1 := Lib.hid (show w.heap.size + 1 ≤ w1.heap.size by have := hb1.size; have := HZ0.out; omega)
  clear hb1
  cases hmg : mayG g with
  | false =>
    clear hmg
    go_wp2_with fail
    refine (gworks_any w1).mono ?_
    rintro e wl ⟨rfl, hbl⟩
    have HBL := Lib.hid (HB1.out.trans (hbl.mono HB1.out.size))
    clear hbl
    go_wp2_with fail
    exact HQ.out _ HBL.out
  | true =>
    have HMG := Lib.hid (MayG.of hmg)
    clear hmg
    by_cases hd0 : dir < 0
    · skip
      go_wp2_with fail
      refine (gworks_any w1).mono ?_
      rintro e wl ⟨rfl, hbl⟩
      have HBL := Lib.hid (HB1.out.trans (hbl.mono HB1.out.size))
      clear hbl
      go_wp2_with fail
      exact HQ.out _ HBL.out
    by_cases hd2 : 2 < dir
    · have hd0' : ¬ dir < 0 := hd0
      go_wp2_with fail
      refine (gworks_any w1).mono ?_
      rintro e wl ⟨rfl, hbl⟩
      have HBL := Lib.hid (HB1.out.trans (hbl.mono HB1.out.size))
      clear hbl
      go_wp2_with fail
      exact HQ.out _ HBL.out
    have hd0' : ¬ dir < 0 := hd0
    have hd2' : ¬ 2 < dir := hd2
    have f0 := HX1.out.cell (i := 0) rfl
    have f1 := HX1.out.cell (i := 1) rfl
    go_wp2_with fail
    refine (HNODE.out HMG.out _ HB1.out).mono ?_
    rintro e w2 ⟨cn, sn, rfl, hb2, hno, hsn, hrn⟩
    have HB2 := Lib.hid (HB1.out.trans (hb2.mono HB1.out.size))
    have HX2 := Lib.hid (HX1.out.below hb2 HX1.out.lt)
    clear f0 f1
    obtain ⟨is1, his1⟩ : ∃ b, hasI (idsN g) id = b := ⟨_, rfl⟩
    obtain ⟨n, hn⟩ : ∃ n, nodeOf g id = n := ⟨_, rfl⟩
    rw [hn] at hno
    rw [his1]
    have HI1 := Lib.hid his1
    have HNN := Lib.hid hn
    clear his1 hn
    have hno2 := hno
    obtain ⟨la, lc, ka, kc, va, vc, y1, y2, y3, rfl, -⟩ := hno2
    obtain ⟨W3, hW3⟩ : ∃ W, w2.alloc (.cells #[.int .i64 n.id, .slice la n.labels.length lc, .slice ka n.keys.length kc, .slice va n.vals.length vc] 38) = W := ⟨_, rfl⟩
    have hb3 : Below w2.heap.size w2 W3 := by rw [← hW3]; exact (Below.refl _ _).alloc (Nat.le_refl _) _
    have HNB3 : Hid (Block W3 w2.heap.size [.int .i64 n.id, .slice la n.labels.length lc, .slice ka n.keys.length kc, .slice va n.vals.length vc] 38) := Lib.hid (by rw [← hW3]; exact Block.new w2 _ _)
    have HB3 := Lib.hid (HB2.out.trans (hb3.mono HB2.out.size))
    have HX3 := Lib.hid (HX2.out.below hb3 HX2.out.lt)
    have HNO3 : Hid (IsNO W3 [.int .i64 n.id, .slice la n.labels.length lc, .slice ka n.keys.length kc, .slice va n.vals.length vc] n sn) := Lib.hid (ownIsNO.same hno (fun q hq => hb3.block q (hrn q hq).2))
    have HSN := Lib.hid (show _ ∧ _ from ⟨hsn, (fun q hq => ⟨(by have := (hrn q hq).1; have := HZ1.out; omega : w.heap.size + 1 ≤ q), (hrn q hq).2⟩ : ∀ q ∈ sn, w.heap.size + 1 ≤ q ∧ q < w2.heap.size)⟩)
    have HZ3 : Hid (w2.heap.size + 1 = W3.heap.size) := Lib.hid (by rw [← hW3]; simp)
    have HW3 := Lib.hid hW3
    have f0 := HX3.out.cell (i := 0) rfl
    have f1 := HX3.out.cell (i := 1) rfl
    rw [← hW3] at f0 f1
    clear hno hsn hrn hW3 hb2 hb3
    go_wp2_with fail
    rw [HW3.out]
    refine (HATN.out _ HB3.out).mono ?_
    rintro e w4 ⟨rfl, hb4⟩
    have HB4 := Lib.hid (HB3.out.trans (hb4.mono HB3.out.size))
    have HX4 := Lib.hid (HX3.out.below hb4 HX3.out.lt)
    have HNB4 := Lib.hid (HNB3.out.below hb4 HNB3.out.lt)
    have HNO4 := Lib.hid (ownIsNO.same HNO3.out (fun q hq => hb4.block q (by have := (HSN.out.2 q hq).2; have := HZ3.out; omega)))
    have HZ4 := Lib.hid (show w2.heap.size + 1 ≤ w4.heap.size by have := hb4.size; have := HZ3.out; omega)
    clear f0 f1 hb4
    obtain ⟨at1, hat1⟩ : ∃ x, idxOf (g.nodes.map (·.id)) id = x := ⟨_, rfl⟩
    rw [hat1]
    have HAT1 := Lib.hid hat1
    clear hat1
    have f0 := HX4.out.cell (i := 0) rfl
    have f1 := HX4.out.cell (i := 1) rfl
    go_wp2_with fail
    refine (HEDGE.out HMG.out _ HB4.out).mono ?_
    rintro e w5 ⟨ce, se, rfl, hb5, heo, hse, hre⟩
    have HB5 := Lib.hid (HB4.out.trans (hb5.mono HB4.out.size))
    have HX5 := Lib.hid (HX4.out.below hb5 HX4.out.lt)
    clear f0 f1
    obtain ⟨is2, his2⟩ : ∃ b, hasI (idsE g) id = b := ⟨_, rfl⟩
    obtain ⟨d, hd⟩ : ∃ n, edgeOf g id = n := ⟨_, rfl⟩
    rw [hd] at heo
    rw [his2]
    have HI2 := Lib.hid his2
    have HDD := Lib.hid hd
    clear his2 hd
    have heo2 := heo
    obtain ⟨dka, dkc, dva, dvc, z1, z2, rfl, -⟩ := heo2
    obtain ⟨W6, hW6⟩ : ∃ W, w5.alloc (.cells #[.int .i64 d.id, .int .i64 d.src, .int .i64 d.dst, .string d.ty, .slice dka d.keys.length dkc, .slice dva d.vals.length dvc] 40) = W := ⟨_, rfl⟩
    have hb6 : Below w5.heap.size w5 W6 := by rw [← hW6]; exact (Below.refl _ _).alloc (Nat.le_refl _) _
    have HEB6 : Hid (Block W6 w5.heap.size [.int .i64 d.id, .int .i64 d.src, .int .i64 d.dst, .string d.ty, .slice dka d.keys.length dkc, .slice dva d.vals.length dvc] 40) := Lib.hid (by rw [← hW6]; exact Block.new w5 _ _)
    have HB6 := Lib.hid (HB5.out.trans (hb6.mono HB5.out.size))
    have HX6 := Lib.hid (HX5.out.below hb6 HX5.out.lt)
    have HEO6 : Hid (IsEO W6 [.int .i64 d.id, .int .i64 d.src, .int .i64 d.dst, .string d.ty, .slice dka d.keys.length dkc, .slice dva d.vals.length dvc] d se) := Lib.hid (ownIsEO.same heo (fun q hq => hb6.block q (hre q hq).2))
    have HZ6 : Hid (w4.heap.size < W6.heap.size) := Lib.hid (by rw [← hW6]; have := hb5.size; simp; omega)
    have HB46 := Lib.hid (hb5.trans (hb6.mono hb5.size))
    have HSE := Lib.hid (fun q hq => show q < W6.heap.size by have := (hre q hq).2; have := hb6.size; omega : ∀ q ∈ se, q < W6.heap.size)
    have HW6 := Lib.hid hW6
    have f0 := HX6.out.cell (i := 0) rfl
    have f1 := HX6.out.cell (i := 1) rfl
    rw [← hW6] at f0 f1
    clear heo hse hre hW6 hb5 hb6
    go_wp2_with fail
    rw [HW6.out]
    refine (HATE.out _ HB6.out).mono ?_
    rintro e w7 ⟨rfl, hb7⟩
    have HB7 := Lib.hid (HB6.out.trans (hb7.mono HB6.out.size))
    have HX7 := Lib.hid (HX6.out.below hb7 HX6.out.lt)
    have HEB7 := Lib.hid (HEB6.out.below hb7 HEB6.out.lt)
    have HEO7 := Lib.hid (ownIsEO.same HEO6.out (fun q hq => hb7.block q (HSE.out q hq)))
    have hb47 := HB46.out.trans (hb7.mono HB46.out.size)
    have HNB7 := Lib.hid (HNB4.out.below hb47 HNB4.out.lt)
    have HNO7 := Lib.hid (ownIsNO.same HNO4.out (fun q hq => hb47.block q (by have := (HSN.out.2 q hq).2; have := HZ4.out; omega)))
    have HZ7 := Lib.hid (show w2.heap.size < w7.heap.size ∧ W6.heap.size ≤ w7.heap.size by have := hb7.size; have := HZ6.out; have := HZ4.out; omega)
    clear f0 f1 hb7 hb47
    obtain ⟨at2, hat2⟩ : ∃ x, idxOf (g.edges.map (·.id)) id = x := ⟨_, rfl⟩
    rw [hat2]
    have HAT2 := Lib.hid hat2
    clear hat2
    have hnR : ∀ u : Ext w7.heap.size w7, IsN u.w.heap.size u.w [.int .i64 n.id, .slice la n.labels.length lc, .slice ka n.keys.length kc, .slice va n.vals.length vc] n := fun u => (ownIsNO.same HNO7.out (fun q hq => u.below.block q (by have := (HSN.out.2 q hq).2; have := HZ7.out; omega))).isN (fun q hq => by have := (HSN.out.2 q hq).2; have := HZ7.out; have := u.below.size; omega)
    have heR : ∀ u : Ext w7.heap.size w7, IsE u.w.heap.size u.w [.int .i64 d.id, .int .i64 d.src, .int .i64 d.dst, .string d.ty, .slice dka d.keys.length dkc, .slice dva d.vals.length dvc] d := fun u => (ownIsEO.same HEO7.out (fun q hq => u.below.block q (by have := HSE.out q hq; have := HZ7.out; omega))).isE (fun q hq => by have := HSE.out q hq; have := HZ7.out; have := u.below.size; omega)
    have HBU : Hid (∀ u : Ext w7.heap.size w7, Below w.heap.size w u.w) := Lib.hid (fun u => HB7.out.trans (u.below.mono HB7.out.size))
    have HNR := Lib.hid hnR
    have HER := Lib.hid heR
    clear hnR heR
    obtain ⟨u7, hu7⟩ := Ext.start w7.heap.size w7
    have HU7 := Lib.hid hu7
    clear hu7
    have f0 : ∀ u : Ext w7.heap.size w7, u.w.cell? ⟨w.heap.size, 0, none⟩ = some (.slice na g.nodes.length nc) := fun u => u.cell HX7.out.lt (HX7.out.cell rfl)
    have f1 : ∀ u : Ext w7.heap.size w7, u.w.cell? ⟨w.heap.size, 1, none⟩ = some (.slice ea g.edges.length ec) := fun u => u.cell HX7.out.lt (HX7.out.cell rfl)
    have n0 : ∀ u : Ext w7.heap.size w7, u.w.cell? ⟨w2.heap.size, 0, none⟩ = some (.int .i64 n.id) := fun u => u.cell HNB7.out.lt (HNB7.out.cell rfl)
    have n1 : ∀ u : Ext w7.heap.size w7, u.w.cell? ⟨w2.heap.size, 1, none⟩ = some (.slice la n.labels.length lc) := fun u => u.cell HNB7.out.lt (HNB7.out.cell rfl)
    have n2 : ∀ u : Ext w7.heap.size w7, u.w.cell? ⟨w2.heap.size, 2, none⟩ = some (.slice ka n.keys.length kc) := fun u => u.cell HNB7.out.lt (HNB7.out.cell rfl)
    have n3 : ∀ u : Ext w7.heap.size w7, u.w.cell? ⟨w2.heap.size, 3, none⟩ = some (.slice va n.vals.length vc) := fun u => u.cell HNB7.out.lt (HNB7.out.cell rfl)
    have e0 : ∀ u : Ext w7.heap.size w7, u.w.cell? ⟨w5.heap.size, 0, none⟩ = some (.int .i64 d.id) := fun u => u.cell HEB7.out.lt (HEB7.out.cell rfl)
    have e1 : ∀ u : Ext w7.heap.size w7, u.w.cell? ⟨w5.heap.size, 1, none⟩ = some (.int .i64 d.src) := fun u => u.cell HEB7.out.lt (HEB7.out.cell rfl)
    have e2 : ∀ u : Ext w7.heap.size w7, u.w.cell? ⟨w5.heap.size, 2, none⟩ = some (.int .i64 d.dst) := fun u => u.cell HEB7.out.lt (HEB7.out.cell rfl)
    have e3 : ∀ u : Ext w7.heap.size w7, u.w.cell? ⟨w5.heap.size, 3, none⟩ = some (.string d.ty) := fun u => u.cell HEB7.out.lt (HEB7.out.cell rfl)
    have e4 : ∀ u : Ext w7.heap.size w7, u.w.cell? ⟨w5.heap.size, 4, none⟩ = some (.slice dka d.keys.length dkc) := fun u => u.cell HEB7.out.lt (HEB7.out.cell rfl)
    have e5 : ∀ u : Ext w7.heap.size w7, u.w.cell? ⟨w5.heap.size, 5, none⟩ = some (.slice dva d.vals.length dvc) := fun u => u.cell HEB7.out.lt (HEB7.out.cell rfl)
    cases is1 with
    | true =>
      cases is2 with
      | true =>
        obtain ⟨p, hp, hat, hnd⟩ := nodeOf_yes HMG.out HI1.out
        rw [HAT1.out] at hat
        obtain rfl := hat
        rw [HNN.out] at hnd
        have hp0 : (0 : Int) ≤ (p : Int) := by omega
        have hp1 : (p : Int) < g.nodes.length := by omega
        have hp2 : ¬ (p : Int) < 0 := by omega
        obtain ⟨kb, koff, kcs, kna, kbB, _, hkc, hkcell0⟩ := (HNS.out _ HB7.out).at hnd
        have hkcell : ∀ (u : Ext w7.heap.size w7) q v, kcs[q]? = some v → u.w.cell? ⟨kb, koff + p * 4 + q, none⟩ = some v := fun u q v hv => by rw [u.below.cell (by have := HB7.out.size; show kb < _; omega)]; exact hkcell0 q v hv
        have HSN2 := Lib.hid (fun u : Ext w7.heap.size w7 => ext_call u (Nat.le_refl _) (sameNode2_any n n _ _ u.w.heap.size u.w (HNR.out u) ((hkc.below u.below (HB7.out.size)).mono (Nat.le_trans HB7.out.size u.below.size)) (Nat.le_refl _)))
        rw [(sameN_iff n n).2 rfl] at HSN2
        obtain ⟨kla, klc, kka, kkc, kva, kvc, rfl⟩ := node_cells hkc
        subst kna
        have k0 : ∀ u : Ext w7.heap.size w7, u.w.cell? ⟨kb, koff + p * 4, none⟩ = some (.int .i64 n.id) := fun u => hkcell u 0 _ rfl
        have k1 := fun u : Ext w7.heap.size w7 => hkcell u 1 _ rfl
        have k2 := fun u : Ext w7.heap.size w7 => hkcell u 2 _ rfl
        have k3 := fun u : Ext w7.heap.size w7 => hkcell u 3 _ rfl
        clear hkcell hkcell0 hkc hnd hp
        obtain ⟨p', hp', hat', hnd'⟩ := edgeOf_yes HMG.out HI2.out
        rw [HAT2.out] at hat'
        obtain rfl := hat'
        rw [HDD.out] at hnd'
        have hp0' : (0 : Int) ≤ (p' : Int) := by omega
        have hp1' : (p' : Int) < g.edges.length := by omega
        have hp2' : ¬ (p' : Int) < 0 := by omega
        obtain ⟨kb', koff', kcs', kna', kbB', _, hkc', hkcell0'⟩ := (HES.out _ HB7.out).at hnd'
        have hkcell' : ∀ (u : Ext w7.heap.size w7) q v, kcs'[q]? = some v → u.w.cell? ⟨kb', koff' + p' * 6 + q, none⟩ = some v := fun u q v hv => by rw [u.below.cell (by have := HB7.out.size; show kb' < _; omega)]; exact hkcell0' q v hv
        have HSE2 := Lib.hid (fun u : Ext w7.heap.size w7 => ext_call u (Nat.le_refl _) (sameEdge2_any d d _ _ u.w.heap.size u.w (HER.out u) ((hkc'.below u.below (HB7.out.size)).mono (Nat.le_trans HB7.out.size u.below.size)) (Nat.le_refl _)))
        rw [(sameE_iff d d).2 rfl] at HSE2
        obtain ⟨kka', kkc', kva', kvc', rfl⟩ := edge_cells hkc'
        subst kna'
        have m0 : ∀ u : Ext w7.heap.size w7, u.w.cell? ⟨kb', koff' + p' * 6, none⟩ = some (.int .i64 d.id) := fun u => hkcell' u 0 _ rfl
        have m1 := fun u : Ext w7.heap.size w7 => hkcell' u 1 _ rfl
        have m2 := fun u : Ext w7.heap.size w7 => hkcell' u 2 _ rfl
        have m3 := fun u : Ext w7.heap.size w7 => hkcell' u 3 _ rfl
        have m4 := fun u : Ext w7.heap.size w7 => hkcell' u 4 _ rfl
        have m5 := fun u : Ext w7.heap.size w7 => hkcell' u 5 _ rfl
        clear hkcell' hkcell0' hkc' hnd' hp'
        clear HAT1 HAT2
        go_wp2_with fail
        rw [HU7.out]
        refine wp_region_at u7 (by kernel_rfl) (by kernel_rfl) ?_
        repeat (go_big_quiet_step (first | (with_reducible exact HSN2.out _) | (with_reducible exact HSE2.out _)))
        refine wpQuiet_nil ?_
        rintro w8 ⟨u8, rfl⟩
        clear k0 k1 k2 k3
        clear m0 m1 m2 m3 m4 m5
        obtain ⟨u9, hu9⟩ : ∃ u9, u8 = u9 := ⟨_, rfl⟩
        rw [hu9]
        clear hu9
        have HX9 := Lib.hid (HX7.out.below u9.below HX7.out.lt)
        have HB9 := Lib.hid (HBU.out u9)
        have HNB9 := Lib.hid (HNB7.out.below u9.below HNB7.out.lt)
        have HNO9 := Lib.hid (ownIsNO.same HNO7.out (fun q hq => u9.below.block q (by have := (HSN.out.2 q hq).2; have := HZ7.out; omega)))
        have HZ9 := Lib.hid (show w2.heap.size < u9.w.heap.size by have := u9.below.size; have := HZ7.out; omega)
        clear f0 f1 n0 n1 n2 n3 e0 e1 e2 e3 e4 e5
        obtain ⟨w9, hw9⟩ : ∃ x, u9.w = x := ⟨_, rfl⟩
        rw [hw9] at HX9 HB9 HNB9 HNO9 HZ9 ⊢
        clear hw9 u9
        have f0 := HX9.out.cell (i := 0) rfl
        have f1 := HX9.out.cell (i := 1) rfl
        go_wp2_with fail
        refine (HAR.out _ HB9.out).mono ?_
        rintro e w11 ⟨ra, rc, sl, rfl, hb11, hrl, hrow, hsl, hrr⟩
        have HB11 := Lib.hid (HB9.out.trans (hb11.mono HB9.out.size))
        have HX11 := Lib.hid (HX9.out.below hb11 HX9.out.lt)
        have HNB11 := Lib.hid (HNB9.out.below hb11 HNB9.out.lt)
        have HNO11 := Lib.hid (ownIsNO.same HNO9.out (fun q hq => hb11.block q (by have := (HSN.out.2 q hq).2; have := HZ9.out; omega)))
        have HL11 := Lib.hid (show _ ∧ _ ∧ _ ∧ _ from ⟨hrl, hrow, hsl, hrr⟩)
        have HZ11 := Lib.hid hb11.size
        clear f0 f1 hrl hrow hsl hrr hb11
        obtain ⟨L, hL⟩ : ∃ L, aroundG g id dir of = L := ⟨_, rfl⟩
        rw [hL] at HL11 HRA ⊢
        have hLl := HLN.out L hL.symm
        clear hL
        have f0 := HX11.out.cell (i := 0) rfl
        have f1 := HX11.out.cell (i := 1) rfl
        go_wp2_with fail
        refine (HRC.out _ HB11.out).mono ?_
        rintro e w12 ⟨co, so, rfl, hb12, hgo, hso, hro⟩
        have HB12 := Lib.hid (HB11.out.trans (hb12.mono HB11.out.size))
        have HX12 := Lib.hid (HX11.out.below hb12 HX11.out.lt)
        clear f0 f1
        have hgo2 := hgo
        obtain ⟨oa, oc, ob, od, o1, o2, rfl, -⟩ := hgo2
        obtain ⟨W13, hW13⟩ : ∃ W, w12.alloc (.cells #[.slice oa g.nodes.length oc, .slice ob g.edges.length od] 25) = W := ⟨_, rfl⟩
        have hb13 : Below w12.heap.size w12 W13 := by rw [← hW13]; exact (Below.refl _ _).alloc (Nat.le_refl _) _
        have HOB13 : Hid (Block W13 w12.heap.size [.slice oa g.nodes.length oc, .slice ob g.edges.length od] 25) := Lib.hid (by rw [← hW13]; exact Block.new w12 _ _)
        have HB13 := Lib.hid (HB12.out.trans (hb13.mono HB12.out.size))
        have HX13 := Lib.hid (HX12.out.below hb13 HX12.out.lt)
        have HGO13 := Lib.hid (hgo.same (fun q hq => hb13.block q (hro q hq).2))
        have HSO := Lib.hid hro
        have HZ13 := Lib.hid (show w11.heap.size ≤ w12.heap.size ∧ w12.heap.size + 1 = W13.heap.size from ⟨hb12.size, by rw [← hW13]; simp⟩)
        have hb23 := hb12.trans (hb13.mono hb12.size)
        have HNB13 := Lib.hid (HNB11.out.below hb23 HNB11.out.lt)
        have HNO13 := Lib.hid (ownIsNO.same HNO11.out (fun q hq => hb23.block q (by have := (HSN.out.2 q hq).2; have := HZ9.out; have := HZ11.out; omega)))
        have HL13 := Lib.hid (HL11.out.2.1.same ownIsEO (fun q hq => hb23.block q (HL11.out.2.2.2 q hq).2))
        have HW13 := Lib.hid hW13
        have f0 := HX13.out.cell (i := 0) rfl
        have f1 := HX13.out.cell (i := 1) rfl
        rw [← hW13] at f0 f1
        clear hgo hso hro hb12 hb13 hb23 hW13
        go_wp2_with fail
        rw [HW13.out]
        refine (HRA.out _ HB13.out).mono ?_
        rintro e w14 ⟨xa, xc, sx, rfl, hb14, hxl, hxrow, -, hxr⟩
        have HB14 := Lib.hid (HB13.out.trans (hb14.mono HB13.out.size))
        have HX14 := Lib.hid (HX13.out.below hb14 HX13.out.lt)
        clear f0 f1
        have HC15 := Lib.hid (sameEdges_any L L ra xa rc xc w14.heap.size w14 ((HL13.out.same ownIsEO (fun q hq => hb14.block q (by have := (HL11.out.2.2.2 q hq).2; have := HZ13.out; omega))).toR ownIsEO (fun q hq => by have := (HL11.out.2.2.2 q hq).2; have := HZ13.out; have := hb14.size; omega) (fun cs x b hx hb => hx.isE hb)) (hxrow.toR ownIsEO (fun q hq => (hxr q hq).2) (fun cs x b hx hb => hx.isE hb)) (Nat.le_refl _) (by omega) (by omega))
        rw [(sameL_iff sameE_iff L L).2 rfl] at HC15
        have HB14' := Lib.hid hb14
        clear hxl hxrow hxr hb14
        go_wp2_with fail
        refine HC15.out.mono ?_
        rintro e w15 ⟨rfl, hb15⟩
        have hb35 := HB14'.out.trans (hb15.mono HB14'.out.size)
        have HB15 := Lib.hid (HB13.out.trans (hb35.mono HB13.out.size))
        have HX15 := Lib.hid (HX13.out.below hb35 HX13.out.lt)
        have HNB15 := Lib.hid (HNB13.out.below hb35 HNB13.out.lt)
        have HOB15 := Lib.hid (HOB13.out.below hb35 HOB13.out.lt)
        have HNO15 := Lib.hid (ownIsNO.same HNO13.out (fun q hq => hb35.block q (by have := (HSN.out.2 q hq).2; have := HZ9.out; have := HZ11.out; have := HZ13.out; omega)))
        have HL15 := Lib.hid (HL13.out.same ownIsEO (fun q hq => hb35.block q (by have := (HL11.out.2.2.2 q hq).2; have := HZ13.out; omega)))
        have HGO15 := Lib.hid (HGO13.out.same (fun q hq => hb35.block q (by have := (HSO.out q hq).2; have := HZ13.out; omega)))
        have HZ15 := Lib.hid hb35.size
        obtain ⟨W16, hW16⟩ : ∃ W, w15.alloc (.cells #[.int .i64 n.id, .slice la n.labels.length lc, .slice ka n.keys.length kc, .slice va n.vals.length vc] 38) = W := ⟨_, rfl⟩
        have hb16 : Below w15.heap.size w15 W16 := by rw [← hW16]; exact (Below.refl _ _).alloc (Nat.le_refl _) _
        have hrb : Block W16 w15.heap.size [.int .i64 n.id, .slice la n.labels.length lc, .slice ka n.keys.length kc, .slice va n.vals.length vc] 38 := by rw [← hW16]; exact Block.new w15 _ _
        have hno16 : IsNO W16 [.int .i64 n.id, .slice la n.labels.length lc, .slice ka n.keys.length kc, .slice va n.vals.length vc] n sn := ownIsNO.same HNO15.out (fun q hq => hb16.block q (by have := (HSN.out.2 q hq).2; have := HZ9.out; have := HZ11.out; have := HZ13.out; have := HZ15.out; omega))
        have hl16 := HL15.out.same ownIsEO (fun q hq => hb16.block q (by have := (HL11.out.2.2.2 q hq).2; have := HZ13.out; have := HZ15.out; omega))
        have hgs : IsGO W16 [.slice (some ⟨w15.heap.size, 0, none⟩) 1 1, .slice ra L.length rc] ⟨[n], L⟩ ((w15.heap.size :: sn) ++ sl) := ⟨some ⟨w15.heap.size, 0, none⟩, 1, ra, rc, _, _, rfl, ⟨⟨⟨by simp, by decide⟩, fun h => by cases h⟩, HL11.out.1⟩, rfl, OwnRw.one ownIsNO hrb hno16, hl16⟩
        have hz16 : W16.heap.size = w15.heap.size + 1 := by rw [← hW16]; simp
        have HBS : Hid (∀ q ∈ (w15.heap.size :: sn) ++ sl, w.heap.size + 1 ≤ q ∧ q < W16.heap.size ∧ (q < w11.heap.size ∨ q = w15.heap.size)) := Lib.hid (fun q hq => by
          rcases List.mem_append.1 hq with hq | hq
          · rcases List.mem_cons.1 hq with rfl | hq
            · exact ⟨by have := HZ9.out; have := HZ11.out; have := HZ13.out; have := HZ15.out; have := HZ1.out; have := HX15.out.lt; omega, by omega, .inr rfl⟩
            · have := HSN.out.2 q hq; have := HZ9.out; have := HZ11.out; have := HZ13.out; have := HZ15.out; exact ⟨by omega, by omega, .inl (by omega)⟩
          · have := HL11.out.2.2.2 q hq; have := HZ9.out; have := HZ13.out; have := HZ15.out; have := HB9.out.size; have := HX9.out.lt; exact ⟨by omega, by omega, .inl (by omega)⟩)
        have hndb : ((w15.heap.size :: sn) ++ sl).Nodup := by
          refine List.nodup_append.2 ⟨List.nodup_cons.2 ⟨fun h => ?_, HSN.out.1⟩, HL11.out.2.2.1, fun q hq r hr e => ?_⟩
          · have := (HSN.out.2 _ h).2; have := HZ9.out; have := HZ11.out; have := HZ13.out; have := HZ15.out; omega
          · have h1 := HL11.out.2.2.2 r hr; have := HZ9.out; have := HZ13.out; have := HZ15.out
            rcases List.mem_cons.1 hq with rfl | hq
            · omega
            · have := (HSN.out.2 q hq).2; omega
        have HSP := Lib.hid (spoilG_any _ _ _ W16 hgs hndb (fun q hq => (HBS.out q hq).2.1))
        have HW16 := Lib.hid hW16
        have HB16 := Lib.hid (HB15.out.trans (hb16.mono HB15.out.size))
        have HX16 := Lib.hid (HX15.out.below hb16 HX15.out.lt)
        have HOB16 := Lib.hid (HOB15.out.below hb16 HOB15.out.lt)
        have HGO16 := Lib.hid (HGO15.out.same (fun q hq => hb16.block q (by have := (HSO.out q hq).2; have := HZ13.out; have := HZ15.out; omega)))
        have HZ16 := Lib.hid hz16
        have k0 : w15.cell? ⟨w2.heap.size, 0, none⟩ = some (.int .i64 n.id) := HNB15.out.cell rfl
        have k1 : w15.cell? ⟨w2.heap.size, 1, none⟩ = some (.slice la n.labels.length lc) := HNB15.out.cell rfl
        have k2 : w15.cell? ⟨w2.heap.size, 2, none⟩ = some (.slice ka n.keys.length kc) := HNB15.out.cell rfl
        have k3 : w15.cell? ⟨w2.heap.size, 3, none⟩ = some (.slice va n.vals.length vc) := HNB15.out.cell rfl
        clear hb15 hb35 hW16 hb16 hrb hno16 hl16 hgs hz16 hndb
        go_wp2_with fail
        rw [HW16.out]
        refine HSP.out.mono ?_
        rintro e w17 ⟨rfl, hk17⟩
        clear k0 k1 k2 k3
        have hB17 : Below (w.heap.size + 1) W16 w17 := hk17.below (fun q hq => (HBS.out q hq).1) (by have := HX16.out.lt; omega)
        have HB17 := Lib.hid (HB16.out.trans (hB17.mono (by omega)))
        have HX17 := Lib.hid (HX16.out.of_heap (hB17.block _ (by omega)))
        have HOB17 := Lib.hid (HOB16.out.of_heap (hk17.block _ HOB16.out.lt (fun h => by have := (HBS.out _ h).2.2; have := HZ13.out; have := HZ15.out; omega)))
        have HGO17 := Lib.hid (HGO16.out.same (fun q hq => hk17.block q (by have := (HSO.out q hq).2; have := HZ13.out; have := HZ15.out; have := HZ16.out; omega) (fun h => by have := (HBS.out _ h).2.2; have := HSO.out q hq; have := HZ13.out; have := HZ15.out; omega)))
        have HZ17 := Lib.hid hk17.size
        clear hk17 hB17
        have f0 := HX17.out.cell (i := 0) rfl
        have f1 := HX17.out.cell (i := 1) rfl
        go_wp2_with fail
        refine (HCO.out _ HB17.out).mono ?_
        rintro e w18 ⟨cc, sc, rfl, hb18, hgc, hsc, hrc⟩
        have HB18 := Lib.hid (HB17.out.trans (hb18.mono HB17.out.size))
        have HX18 := Lib.hid (HX17.out.below hb18 HX17.out.lt)
        clear f0 f1
        have HSP2 := Lib.hid (spoilG_any g cc sc w18 hgc hsc (fun q hq => (hrc q hq).2))
        have HRC2 := Lib.hid hrc
        have HB18' := Lib.hid hb18
        have hgc2 := hgc
        obtain ⟨pa, pc, pb, pd, p1, p2, rfl, -⟩ := hgc2
        clear hgc hsc hrc hb18
        go_wp2_with fail
        refine HSP2.out.mono ?_
        rintro e w19 ⟨rfl, hk19⟩
        have hb19 : Below w17.heap.size w17 w19 := HB18'.out.trans (hk19.below (fun q hq => (HRC2.out q hq).1) HB18'.out.size)
        have HB19 := Lib.hid (HB17.out.trans (hb19.mono HB17.out.size))
        have HX19 := Lib.hid (HX17.out.below hb19 HX17.out.lt)
        have HOB19 := Lib.hid (HOB17.out.below hb19 HOB17.out.lt)
        have hgo19 := HGO17.out.same (fun q hq => hb19.block q (by have := (HSO.out q hq).2; have := HZ13.out; have := HZ15.out; have := HZ16.out; have := HZ17.out; omega))
        have HC20 := Lib.hid (sameG_any g g _ _ w19.heap.size w19 ((HGG.out _ HB19.out).mono HB19.out.size) (hgo19.isG (fun q hq => by have := (HSO.out q hq).2; have := HZ13.out; have := HZ15.out; have := HZ16.out; have := HZ17.out; have := hb19.size; omega)) (Nat.le_refl _))
        rw [(sameG_iff g g).2 rfl] at HC20
        clear hk19 hb19 hgo19
        have f0 := HX19.out.cell (i := 0) rfl
        have f1 := HX19.out.cell (i := 1) rfl
        have g0 := HOB19.out.cell (i := 0) rfl
        have g1 := HOB19.out.cell (i := 1) rfl
        go_wp2_with fail
        refine HC20.out.mono ?_
        rintro e w20 ⟨rfl, hb20⟩
        have HB20 := Lib.hid (HB19.out.trans (hb20.mono HB19.out.size))
        clear f0 f1 g0 g1 hb20
        go_wp2_with fail
        refine (gworks_any w20).mono ?_
        rintro e wl ⟨rfl, hbl⟩
        have HBL := Lib.hid (HB20.out.trans (hbl.mono HB20.out.size))
        clear hbl
        go_wp2_with fail
        exact HQ.out _ HBL.out
      | false =>
        obtain ⟨p, hp, hat, hnd⟩ := nodeOf_yes HMG.out HI1.out
        rw [HAT1.out] at hat
        obtain rfl := hat
        rw [HNN.out] at hnd
        have hp0 : (0 : Int) ≤ (p : Int) := by omega
        have hp1 : (p : Int) < g.nodes.length := by omega
        have hp2 : ¬ (p : Int) < 0 := by omega
        obtain ⟨kb, koff, kcs, kna, kbB, _, hkc, hkcell0⟩ := (HNS.out _ HB7.out).at hnd
        have hkcell : ∀ (u : Ext w7.heap.size w7) q v, kcs[q]? = some v → u.w.cell? ⟨kb, koff + p * 4 + q, none⟩ = some v := fun u q v hv => by rw [u.below.cell (by have := HB7.out.size; show kb < _; omega)]; exact hkcell0 q v hv
        have HSN2 := Lib.hid (fun u : Ext w7.heap.size w7 => ext_call u (Nat.le_refl _) (sameNode2_any n n _ _ u.w.heap.size u.w (HNR.out u) ((hkc.below u.below (HB7.out.size)).mono (Nat.le_trans HB7.out.size u.below.size)) (Nat.le_refl _)))
        rw [(sameN_iff n n).2 rfl] at HSN2
        obtain ⟨kla, klc, kka, kkc, kva, kvc, rfl⟩ := node_cells hkc
        subst kna
        have k0 : ∀ u : Ext w7.heap.size w7, u.w.cell? ⟨kb, koff + p * 4, none⟩ = some (.int .i64 n.id) := fun u => hkcell u 0 _ rfl
        have k1 := fun u : Ext w7.heap.size w7 => hkcell u 1 _ rfl
        have k2 := fun u : Ext w7.heap.size w7 => hkcell u 2 _ rfl
        have k3 := fun u : Ext w7.heap.size w7 => hkcell u 3 _ rfl
        clear hkcell hkcell0 hkc hnd hp
        obtain rfl : at2 = -1 := by rw [← HAT2.out]; exact idxOf_neg HI2.out HMG.out.riseE
        have hdz : d = zeroE := by rw [← HDD.out]; exact edgeOf_no HI2.out
        have HSE2 := Lib.hid (fun u : Ext w7.heap.size w7 => ext_call u (Nat.le_refl _) (sameEdge2_any d zeroE _ [.int .i64 0, .int .i64 0, .int .i64 0, .string ⟨#[]⟩, .slice none 0 0, .slice none 0 0] u.w.heap.size u.w (HER.out u) ((zeroE_own u.w).isE (fun q hq => by simp at hq)) (Nat.le_refl _)))
        rw [(sameE_iff d zeroE).2 hdz] at HSE2
        clear hdz
        clear HAT1 HAT2
        go_wp2_with fail
        rw [HU7.out]
        refine wp_region_at u7 (by kernel_rfl) (by kernel_rfl) ?_
        repeat (go_big_quiet_step (first | (with_reducible exact HSN2.out _) | (with_reducible exact HSE2.out _)))
        refine wpQuiet_nil ?_
        rintro w8 ⟨u8, rfl⟩
        clear k0 k1 k2 k3
        go_wp2_with fail
        refine (HSE2.out u8).mono ?_
        rintro e wB ⟨rfl, uB, rfl⟩
        obtain ⟨u9, hu9⟩ : ∃ u9, uB = u9 := ⟨_, rfl⟩
        rw [hu9]
        clear hu9
        have HX9 := Lib.hid (HX7.out.below u9.below HX7.out.lt)
        have HB9 := Lib.hid (HBU.out u9)
        have HNB9 := Lib.hid (HNB7.out.below u9.below HNB7.out.lt)
        have HNO9 := Lib.hid (ownIsNO.same HNO7.out (fun q hq => u9.below.block q (by have := (HSN.out.2 q hq).2; have := HZ7.out; omega)))
        have HZ9 := Lib.hid (show w2.heap.size < u9.w.heap.size by have := u9.below.size; have := HZ7.out; omega)
        clear f0 f1 n0 n1 n2 n3 e0 e1 e2 e3 e4 e5
        obtain ⟨w9, hw9⟩ : ∃ x, u9.w = x := ⟨_, rfl⟩
        rw [hw9] at HX9 HB9 HNB9 HNO9 HZ9 ⊢
        clear hw9 u9
        have f0 := HX9.out.cell (i := 0) rfl
        have f1 := HX9.out.cell (i := 1) rfl
        go_wp2_with fail
        refine (HAR.out _ HB9.out).mono ?_
        rintro e w11 ⟨ra, rc, sl, rfl, hb11, hrl, hrow, hsl, hrr⟩
        have HB11 := Lib.hid (HB9.out.trans (hb11.mono HB9.out.size))
        have HX11 := Lib.hid (HX9.out.below hb11 HX9.out.lt)
        have HNB11 := Lib.hid (HNB9.out.below hb11 HNB9.out.lt)
        have HNO11 := Lib.hid (ownIsNO.same HNO9.out (fun q hq => hb11.block q (by have := (HSN.out.2 q hq).2; have := HZ9.out; omega)))
        have HL11 := Lib.hid (show _ ∧ _ ∧ _ ∧ _ from ⟨hrl, hrow, hsl, hrr⟩)
        have HZ11 := Lib.hid hb11.size
        clear f0 f1 hrl hrow hsl hrr hb11
        obtain ⟨L, hL⟩ : ∃ L, aroundG g id dir of = L := ⟨_, rfl⟩
        rw [hL] at HL11 HRA ⊢
        have hLl := HLN.out L hL.symm
        clear hL
        have f0 := HX11.out.cell (i := 0) rfl
        have f1 := HX11.out.cell (i := 1) rfl
        go_wp2_with fail
        refine (HRC.out _ HB11.out).mono ?_
        rintro e w12 ⟨co, so, rfl, hb12, hgo, hso, hro⟩
        have HB12 := Lib.hid (HB11.out.trans (hb12.mono HB11.out.size))
        have HX12 := Lib.hid (HX11.out.below hb12 HX11.out.lt)
        clear f0 f1
        have hgo2 := hgo
        obtain ⟨oa, oc, ob, od, o1, o2, rfl, -⟩ := hgo2
        obtain ⟨W13, hW13⟩ : ∃ W, w12.alloc (.cells #[.slice oa g.nodes.length oc, .slice ob g.edges.length od] 25) = W := ⟨_, rfl⟩
        have hb13 : Below w12.heap.size w12 W13 := by rw [← hW13]; exact (Below.refl _ _).alloc (Nat.le_refl _) _
        have HOB13 : Hid (Block W13 w12.heap.size [.slice oa g.nodes.length oc, .slice ob g.edges.length od] 25) := Lib.hid (by rw [← hW13]; exact Block.new w12 _ _)
        have HB13 := Lib.hid (HB12.out.trans (hb13.mono HB12.out.size))
        have HX13 := Lib.hid (HX12.out.below hb13 HX12.out.lt)
        have HGO13 := Lib.hid (hgo.same (fun q hq => hb13.block q (hro q hq).2))
        have HSO := Lib.hid hro
        have HZ13 := Lib.hid (show w11.heap.size ≤ w12.heap.size ∧ w12.heap.size + 1 = W13.heap.size from ⟨hb12.size, by rw [← hW13]; simp⟩)
        have hb23 := hb12.trans (hb13.mono hb12.size)
        have HNB13 := Lib.hid (HNB11.out.below hb23 HNB11.out.lt)
        have HNO13 := Lib.hid (ownIsNO.same HNO11.out (fun q hq => hb23.block q (by have := (HSN.out.2 q hq).2; have := HZ9.out; have := HZ11.out; omega)))
        have HL13 := Lib.hid (HL11.out.2.1.same ownIsEO (fun q hq => hb23.block q (HL11.out.2.2.2 q hq).2))
        have HW13 := Lib.hid hW13
        have f0 := HX13.out.cell (i := 0) rfl
        have f1 := HX13.out.cell (i := 1) rfl
        rw [← hW13] at f0 f1
        clear hgo hso hro hb12 hb13 hb23 hW13
        go_wp2_with fail
        rw [HW13.out]
        refine (HRA.out _ HB13.out).mono ?_
        rintro e w14 ⟨xa, xc, sx, rfl, hb14, hxl, hxrow, -, hxr⟩
        have HB14 := Lib.hid (HB13.out.trans (hb14.mono HB13.out.size))
        have HX14 := Lib.hid (HX13.out.below hb14 HX13.out.lt)
        clear f0 f1
        have HC15 := Lib.hid (sameEdges_any L L ra xa rc xc w14.heap.size w14 ((HL13.out.same ownIsEO (fun q hq => hb14.block q (by have := (HL11.out.2.2.2 q hq).2; have := HZ13.out; omega))).toR ownIsEO (fun q hq => by have := (HL11.out.2.2.2 q hq).2; have := HZ13.out; have := hb14.size; omega) (fun cs x b hx hb => hx.isE hb)) (hxrow.toR ownIsEO (fun q hq => (hxr q hq).2) (fun cs x b hx hb => hx.isE hb)) (Nat.le_refl _) (by omega) (by omega))
        rw [(sameL_iff sameE_iff L L).2 rfl] at HC15
        have HB14' := Lib.hid hb14
        clear hxl hxrow hxr hb14
        go_wp2_with fail
        refine HC15.out.mono ?_
        rintro e w15 ⟨rfl, hb15⟩
        have hb35 := HB14'.out.trans (hb15.mono HB14'.out.size)
        have HB15 := Lib.hid (HB13.out.trans (hb35.mono HB13.out.size))
        have HX15 := Lib.hid (HX13.out.below hb35 HX13.out.lt)
        have HNB15 := Lib.hid (HNB13.out.below hb35 HNB13.out.lt)
        have HOB15 := Lib.hid (HOB13.out.below hb35 HOB13.out.lt)
        have HNO15 := Lib.hid (ownIsNO.same HNO13.out (fun q hq => hb35.block q (by have := (HSN.out.2 q hq).2; have := HZ9.out; have := HZ11.out; have := HZ13.out; omega)))
        have HL15 := Lib.hid (HL13.out.same ownIsEO (fun q hq => hb35.block q (by have := (HL11.out.2.2.2 q hq).2; have := HZ13.out; omega)))
        have HGO15 := Lib.hid (HGO13.out.same (fun q hq => hb35.block q (by have := (HSO.out q hq).2; have := HZ13.out; omega)))
        have HZ15 := Lib.hid hb35.size
        obtain ⟨W16, hW16⟩ : ∃ W, w15.alloc (.cells #[.int .i64 n.id, .slice la n.labels.length lc, .slice ka n.keys.length kc, .slice va n.vals.length vc] 38) = W := ⟨_, rfl⟩
        have hb16 : Below w15.heap.size w15 W16 := by rw [← hW16]; exact (Below.refl _ _).alloc (Nat.le_refl _) _
        have hrb : Block W16 w15.heap.size [.int .i64 n.id, .slice la n.labels.length lc, .slice ka n.keys.length kc, .slice va n.vals.length vc] 38 := by rw [← hW16]; exact Block.new w15 _ _
        have hno16 : IsNO W16 [.int .i64 n.id, .slice la n.labels.length lc, .slice ka n.keys.length kc, .slice va n.vals.length vc] n sn := ownIsNO.same HNO15.out (fun q hq => hb16.block q (by have := (HSN.out.2 q hq).2; have := HZ9.out; have := HZ11.out; have := HZ13.out; have := HZ15.out; omega))
        have hl16 := HL15.out.same ownIsEO (fun q hq => hb16.block q (by have := (HL11.out.2.2.2 q hq).2; have := HZ13.out; have := HZ15.out; omega))
        have hgs : IsGO W16 [.slice (some ⟨w15.heap.size, 0, none⟩) 1 1, .slice ra L.length rc] ⟨[n], L⟩ ((w15.heap.size :: sn) ++ sl) := ⟨some ⟨w15.heap.size, 0, none⟩, 1, ra, rc, _, _, rfl, ⟨⟨⟨by simp, by decide⟩, fun h => by cases h⟩, HL11.out.1⟩, rfl, OwnRw.one ownIsNO hrb hno16, hl16⟩
        have hz16 : W16.heap.size = w15.heap.size + 1 := by rw [← hW16]; simp
        have HBS : Hid (∀ q ∈ (w15.heap.size :: sn) ++ sl, w.heap.size + 1 ≤ q ∧ q < W16.heap.size ∧ (q < w11.heap.size ∨ q = w15.heap.size)) := Lib.hid (fun q hq => by
          rcases List.mem_append.1 hq with hq | hq
          · rcases List.mem_cons.1 hq with rfl | hq
            · exact ⟨by have := HZ9.out; have := HZ11.out; have := HZ13.out; have := HZ15.out; have := HZ1.out; have := HX15.out.lt; omega, by omega, .inr rfl⟩
            · have := HSN.out.2 q hq; have := HZ9.out; have := HZ11.out; have := HZ13.out; have := HZ15.out; exact ⟨by omega, by omega, .inl (by omega)⟩
          · have := HL11.out.2.2.2 q hq; have := HZ9.out; have := HZ13.out; have := HZ15.out; have := HB9.out.size; have := HX9.out.lt; exact ⟨by omega, by omega, .inl (by omega)⟩)
        have hndb : ((w15.heap.size :: sn) ++ sl).Nodup := by
          refine List.nodup_append.2 ⟨List.nodup_cons.2 ⟨fun h => ?_, HSN.out.1⟩, HL11.out.2.2.1, fun q hq r hr e => ?_⟩
          · have := (HSN.out.2 _ h).2; have := HZ9.out; have := HZ11.out; have := HZ13.out; have := HZ15.out; omega
          · have h1 := HL11.out.2.2.2 r hr; have := HZ9.out; have := HZ13.out; have := HZ15.out
            rcases List.mem_cons.1 hq with rfl | hq
            · omega
            · have := (HSN.out.2 q hq).2; omega
        have HSP := Lib.hid (spoilG_any _ _ _ W16 hgs hndb (fun q hq => (HBS.out q hq).2.1))
        have HW16 := Lib.hid hW16
        have HB16 := Lib.hid (HB15.out.trans (hb16.mono HB15.out.size))
        have HX16 := Lib.hid (HX15.out.below hb16 HX15.out.lt)
        have HOB16 := Lib.hid (HOB15.out.below hb16 HOB15.out.lt)
        have HGO16 := Lib.hid (HGO15.out.same (fun q hq => hb16.block q (by have := (HSO.out q hq).2; have := HZ13.out; have := HZ15.out; omega)))
        have HZ16 := Lib.hid hz16
        have k0 : w15.cell? ⟨w2.heap.size, 0, none⟩ = some (.int .i64 n.id) := HNB15.out.cell rfl
        have k1 : w15.cell? ⟨w2.heap.size, 1, none⟩ = some (.slice la n.labels.length lc) := HNB15.out.cell rfl
        have k2 : w15.cell? ⟨w2.heap.size, 2, none⟩ = some (.slice ka n.keys.length kc) := HNB15.out.cell rfl
        have k3 : w15.cell? ⟨w2.heap.size, 3, none⟩ = some (.slice va n.vals.length vc) := HNB15.out.cell rfl
        clear hb15 hb35 hW16 hb16 hrb hno16 hl16 hgs hz16 hndb
        go_wp2_with fail
        rw [HW16.out]
        refine HSP.out.mono ?_
        rintro e w17 ⟨rfl, hk17⟩
        clear k0 k1 k2 k3
        have hB17 : Below (w.heap.size + 1) W16 w17 := hk17.below (fun q hq => (HBS.out q hq).1) (by have := HX16.out.lt; omega)
        have HB17 := Lib.hid (HB16.out.trans (hB17.mono (by omega)))
        have HX17 := Lib.hid (HX16.out.of_heap (hB17.block _ (by omega)))
        have HOB17 := Lib.hid (HOB16.out.of_heap (hk17.block _ HOB16.out.lt (fun h => by have := (HBS.out _ h).2.2; have := HZ13.out; have := HZ15.out; omega)))
        have HGO17 := Lib.hid (HGO16.out.same (fun q hq => hk17.block q (by have := (HSO.out q hq).2; have := HZ13.out; have := HZ15.out; have := HZ16.out; omega) (fun h => by have := (HBS.out _ h).2.2; have := HSO.out q hq; have := HZ13.out; have := HZ15.out; omega)))
        have HZ17 := Lib.hid hk17.size
        clear hk17 hB17
        have f0 := HX17.out.cell (i := 0) rfl
        have f1 := HX17.out.cell (i := 1) rfl
        go_wp2_with fail
        refine (HCO.out _ HB17.out).mono ?_
        rintro e w18 ⟨cc, sc, rfl, hb18, hgc, hsc, hrc⟩
        have HB18 := Lib.hid (HB17.out.trans (hb18.mono HB17.out.size))
        have HX18 := Lib.hid (HX17.out.below hb18 HX17.out.lt)
        clear f0 f1
        have HSP2 := Lib.hid (spoilG_any g cc sc w18 hgc hsc (fun q hq => (hrc q hq).2))
        have HRC2 := Lib.hid hrc
        have HB18' := Lib.hid hb18
        have hgc2 := hgc
        obtain ⟨pa, pc, pb, pd, p1, p2, rfl, -⟩ := hgc2
        clear hgc hsc hrc hb18
        go_wp2_with fail
        refine HSP2.out.mono ?_
        rintro e w19 ⟨rfl, hk19⟩
        have hb19 : Below w17.heap.size w17 w19 := HB18'.out.trans (hk19.below (fun q hq => (HRC2.out q hq).1) HB18'.out.size)
        have HB19 := Lib.hid (HB17.out.trans (hb19.mono HB17.out.size))
        have HX19 := Lib.hid (HX17.out.below hb19 HX17.out.lt)
        have HOB19 := Lib.hid (HOB17.out.below hb19 HOB17.out.lt)
        have hgo19 := HGO17.out.same (fun q hq => hb19.block q (by have := (HSO.out q hq).2; have := HZ13.out; have := HZ15.out; have := HZ16.out; have := HZ17.out; omega))
        have HC20 := Lib.hid (sameG_any g g _ _ w19.heap.size w19 ((HGG.out _ HB19.out).mono HB19.out.size) (hgo19.isG (fun q hq => by have := (HSO.out q hq).2; have := HZ13.out; have := HZ15.out; have := HZ16.out; have := HZ17.out; have := hb19.size; omega)) (Nat.le_refl _))
        rw [(sameG_iff g g).2 rfl] at HC20
        clear hk19 hb19 hgo19
        have f0 := HX19.out.cell (i := 0) rfl
        have f1 := HX19.out.cell (i := 1) rfl
        have g0 := HOB19.out.cell (i := 0) rfl
        have g1 := HOB19.out.cell (i := 1) rfl
        go_wp2_with fail
        refine HC20.out.mono ?_
        rintro e w20 ⟨rfl, hb20⟩
        have HB20 := Lib.hid (HB19.out.trans (hb20.mono HB19.out.size))
        clear f0 f1 g0 g1 hb20
        go_wp2_with fail
        refine (gworks_any w20).mono ?_
        rintro e wl ⟨rfl, hbl⟩
        have HBL := Lib.hid (HB20.out.trans (hbl.mono HB20.out.size))
        clear hbl
        go_wp2_with fail
        exact HQ.out _ HBL.out
    | false =>
      cases is2 with
      | true =>
        obtain rfl : at1 = -1 := by rw [← HAT1.out]; exact idxOf_neg HI1.out HMG.out.riseN
        have hnz : n = zeroN := by rw [← HNN.out]; exact nodeOf_no HI1.out
        have HSN2 := Lib.hid (fun u : Ext w7.heap.size w7 => ext_call u (Nat.le_refl _) (sameNode2_any n zeroN _ [.int .i64 0, .slice none 0 0, .slice none 0 0, .slice none 0 0] u.w.heap.size u.w (HNR.out u) ((zeroN_own u.w).isN (fun q hq => by simp at hq)) (Nat.le_refl _)))
        rw [(sameN_iff n zeroN).2 hnz] at HSN2
        clear hnz
        obtain ⟨p', hp', hat', hnd'⟩ := edgeOf_yes HMG.out HI2.out
        rw [HAT2.out] at hat'
        obtain rfl := hat'
        rw [HDD.out] at hnd'
        have hp0' : (0 : Int) ≤ (p' : Int) := by omega
        have hp1' : (p' : Int) < g.edges.length := by omega
        have hp2' : ¬ (p' : Int) < 0 := by omega
        obtain ⟨kb', koff', kcs', kna', kbB', _, hkc', hkcell0'⟩ := (HES.out _ HB7.out).at hnd'
        have hkcell' : ∀ (u : Ext w7.heap.size w7) q v, kcs'[q]? = some v → u.w.cell? ⟨kb', koff' + p' * 6 + q, none⟩ = some v := fun u q v hv => by rw [u.below.cell (by have := HB7.out.size; show kb' < _; omega)]; exact hkcell0' q v hv
        have HSE2 := Lib.hid (fun u : Ext w7.heap.size w7 => ext_call u (Nat.le_refl _) (sameEdge2_any d d _ _ u.w.heap.size u.w (HER.out u) ((hkc'.below u.below (HB7.out.size)).mono (Nat.le_trans HB7.out.size u.below.size)) (Nat.le_refl _)))
        rw [(sameE_iff d d).2 rfl] at HSE2
        obtain ⟨kka', kkc', kva', kvc', rfl⟩ := edge_cells hkc'
        subst kna'
        have m0 : ∀ u : Ext w7.heap.size w7, u.w.cell? ⟨kb', koff' + p' * 6, none⟩ = some (.int .i64 d.id) := fun u => hkcell' u 0 _ rfl
        have m1 := fun u : Ext w7.heap.size w7 => hkcell' u 1 _ rfl
        have m2 := fun u : Ext w7.heap.size w7 => hkcell' u 2 _ rfl
        have m3 := fun u : Ext w7.heap.size w7 => hkcell' u 3 _ rfl
        have m4 := fun u : Ext w7.heap.size w7 => hkcell' u 4 _ rfl
        have m5 := fun u : Ext w7.heap.size w7 => hkcell' u 5 _ rfl
        clear hkcell' hkcell0' hkc' hnd' hp'
        clear HAT1 HAT2
        go_wp2_with fail
        rw [HU7.out]
        refine wp_region_at u7 (by kernel_rfl) (by kernel_rfl) ?_
        repeat (go_big_quiet_step (first | (with_reducible exact HSN2.out _) | (with_reducible exact HSE2.out _)))
        refine wpQuiet_nil ?_
        rintro w8 ⟨u8, rfl⟩
        clear m0 m1 m2 m3 m4 m5
        go_wp2_with fail
        refine (HSN2.out u8).mono ?_
        rintro e wA ⟨rfl, uA, rfl⟩
        obtain ⟨u9, hu9⟩ : ∃ u9, uA = u9 := ⟨_, rfl⟩
        rw [hu9]
        clear hu9
        have HX9 := Lib.hid (HX7.out.below u9.below HX7.out.lt)
        have HB9 := Lib.hid (HBU.out u9)
        have HNB9 := Lib.hid (HNB7.out.below u9.below HNB7.out.lt)
        have HNO9 := Lib.hid (ownIsNO.same HNO7.out (fun q hq => u9.below.block q (by have := (HSN.out.2 q hq).2; have := HZ7.out; omega)))
        have HZ9 := Lib.hid (show w2.heap.size < u9.w.heap.size by have := u9.below.size; have := HZ7.out; omega)
        clear f0 f1 n0 n1 n2 n3 e0 e1 e2 e3 e4 e5
        obtain ⟨w9, hw9⟩ : ∃ x, u9.w = x := ⟨_, rfl⟩
        rw [hw9] at HX9 HB9 HNB9 HNO9 HZ9 ⊢
        clear hw9 u9
        have f0 := HX9.out.cell (i := 0) rfl
        have f1 := HX9.out.cell (i := 1) rfl
        go_wp2_with fail
        refine (HAR.out _ HB9.out).mono ?_
        rintro e w11 ⟨ra, rc, sl, rfl, hb11, hrl, hrow, hsl, hrr⟩
        have HB11 := Lib.hid (HB9.out.trans (hb11.mono HB9.out.size))
        have HX11 := Lib.hid (HX9.out.below hb11 HX9.out.lt)
        have HNB11 := Lib.hid (HNB9.out.below hb11 HNB9.out.lt)
        have HNO11 := Lib.hid (ownIsNO.same HNO9.out (fun q hq => hb11.block q (by have := (HSN.out.2 q hq).2; have := HZ9.out; omega)))
        have HL11 := Lib.hid (show _ ∧ _ ∧ _ ∧ _ from ⟨hrl, hrow, hsl, hrr⟩)
        have HZ11 := Lib.hid hb11.size
        clear f0 f1 hrl hrow hsl hrr hb11
        obtain ⟨L, hL⟩ : ∃ L, aroundG g id dir of = L := ⟨_, rfl⟩
        rw [hL] at HL11 HRA ⊢
        have hLl := HLN.out L hL.symm
        clear hL
        have f0 := HX11.out.cell (i := 0) rfl
        have f1 := HX11.out.cell (i := 1) rfl
        go_wp2_with fail
        refine (HRC.out _ HB11.out).mono ?_
        rintro e w12 ⟨co, so, rfl, hb12, hgo, hso, hro⟩
        have HB12 := Lib.hid (HB11.out.trans (hb12.mono HB11.out.size))
        have HX12 := Lib.hid (HX11.out.below hb12 HX11.out.lt)
        clear f0 f1
        have hgo2 := hgo
        obtain ⟨oa, oc, ob, od, o1, o2, rfl, -⟩ := hgo2
        obtain ⟨W13, hW13⟩ : ∃ W, w12.alloc (.cells #[.slice oa g.nodes.length oc, .slice ob g.edges.length od] 25) = W := ⟨_, rfl⟩
        have hb13 : Below w12.heap.size w12 W13 := by rw [← hW13]; exact (Below.refl _ _).alloc (Nat.le_refl _) _
        have HOB13 : Hid (Block W13 w12.heap.size [.slice oa g.nodes.length oc, .slice ob g.edges.length od] 25) := Lib.hid (by rw [← hW13]; exact Block.new w12 _ _)
        have HB13 := Lib.hid (HB12.out.trans (hb13.mono HB12.out.size))
        have HX13 := Lib.hid (HX12.out.below hb13 HX12.out.lt)
        have HGO13 := Lib.hid (hgo.same (fun q hq => hb13.block q (hro q hq).2))
        have HSO := Lib.hid hro
        have HZ13 := Lib.hid (show w11.heap.size ≤ w12.heap.size ∧ w12.heap.size + 1 = W13.heap.size from ⟨hb12.size, by rw [← hW13]; simp⟩)
        have hb23 := hb12.trans (hb13.mono hb12.size)
        have HNB13 := Lib.hid (HNB11.out.below hb23 HNB11.out.lt)
        have HNO13 := Lib.hid (ownIsNO.same HNO11.out (fun q hq => hb23.block q (by have := (HSN.out.2 q hq).2; have := HZ9.out; have := HZ11.out; omega)))
        have HL13 := Lib.hid (HL11.out.2.1.same ownIsEO (fun q hq => hb23.block q (HL11.out.2.2.2 q hq).2))
        have HW13 := Lib.hid hW13
        have f0 := HX13.out.cell (i := 0) rfl
        have f1 := HX13.out.cell (i := 1) rfl
        rw [← hW13] at f0 f1
        clear hgo hso hro hb12 hb13 hb23 hW13
        go_wp2_with fail
        rw [HW13.out]
        refine (HRA.out _ HB13.out).mono ?_
        rintro e w14 ⟨xa, xc, sx, rfl, hb14, hxl, hxrow, -, hxr⟩
        have HB14 := Lib.hid (HB13.out.trans (hb14.mono HB13.out.size))
        have HX14 := Lib.hid (HX13.out.below hb14 HX13.out.lt)
        clear f0 f1
        have HC15 := Lib.hid (sameEdges_any L L ra xa rc xc w14.heap.size w14 ((HL13.out.same ownIsEO (fun q hq => hb14.block q (by have := (HL11.out.2.2.2 q hq).2; have := HZ13.out; omega))).toR ownIsEO (fun q hq => by have := (HL11.out.2.2.2 q hq).2; have := HZ13.out; have := hb14.size; omega) (fun cs x b hx hb => hx.isE hb)) (hxrow.toR ownIsEO (fun q hq => (hxr q hq).2) (fun cs x b hx hb => hx.isE hb)) (Nat.le_refl _) (by omega) (by omega))
        rw [(sameL_iff sameE_iff L L).2 rfl] at HC15
        have HB14' := Lib.hid hb14
        clear hxl hxrow hxr hb14
        go_wp2_with fail
        refine HC15.out.mono ?_
        rintro e w15 ⟨rfl, hb15⟩
        have hb35 := HB14'.out.trans (hb15.mono HB14'.out.size)
        have HB15 := Lib.hid (HB13.out.trans (hb35.mono HB13.out.size))
        have HX15 := Lib.hid (HX13.out.below hb35 HX13.out.lt)
        have HNB15 := Lib.hid (HNB13.out.below hb35 HNB13.out.lt)
        have HOB15 := Lib.hid (HOB13.out.below hb35 HOB13.out.lt)
        have HNO15 := Lib.hid (ownIsNO.same HNO13.out (fun q hq => hb35.block q (by have := (HSN.out.2 q hq).2; have := HZ9.out; have := HZ11.out; have := HZ13.out; omega)))
        have HL15 := Lib.hid (HL13.out.same ownIsEO (fun q hq => hb35.block q (by have := (HL11.out.2.2.2 q hq).2; have := HZ13.out; omega)))
        have HGO15 := Lib.hid (HGO13.out.same (fun q hq => hb35.block q (by have := (HSO.out q hq).2; have := HZ13.out; omega)))
        have HZ15 := Lib.hid hb35.size
        obtain ⟨W16, hW16⟩ : ∃ W, w15.alloc (.cells #[.int .i64 n.id, .slice la n.labels.length lc, .slice ka n.keys.length kc, .slice va n.vals.length vc] 38) = W := ⟨_, rfl⟩
        have hb16 : Below w15.heap.size w15 W16 := by rw [← hW16]; exact (Below.refl _ _).alloc (Nat.le_refl _) _
        have hrb : Block W16 w15.heap.size [.int .i64 n.id, .slice la n.labels.length lc, .slice ka n.keys.length kc, .slice va n.vals.length vc] 38 := by rw [← hW16]; exact Block.new w15 _ _
        have hno16 : IsNO W16 [.int .i64 n.id, .slice la n.labels.length lc, .slice ka n.keys.length kc, .slice va n.vals.length vc] n sn := ownIsNO.same HNO15.out (fun q hq => hb16.block q (by have := (HSN.out.2 q hq).2; have := HZ9.out; have := HZ11.out; have := HZ13.out; have := HZ15.out; omega))
        have hl16 := HL15.out.same ownIsEO (fun q hq => hb16.block q (by have := (HL11.out.2.2.2 q hq).2; have := HZ13.out; have := HZ15.out; omega))
        have hgs : IsGO W16 [.slice (some ⟨w15.heap.size, 0, none⟩) 1 1, .slice ra L.length rc] ⟨[n], L⟩ ((w15.heap.size :: sn) ++ sl) := ⟨some ⟨w15.heap.size, 0, none⟩, 1, ra, rc, _, _, rfl, ⟨⟨⟨by simp, by decide⟩, fun h => by cases h⟩, HL11.out.1⟩, rfl, OwnRw.one ownIsNO hrb hno16, hl16⟩
        have hz16 : W16.heap.size = w15.heap.size + 1 := by rw [← hW16]; simp
        have HBS : Hid (∀ q ∈ (w15.heap.size :: sn) ++ sl, w.heap.size + 1 ≤ q ∧ q < W16.heap.size ∧ (q < w11.heap.size ∨ q = w15.heap.size)) := Lib.hid (fun q hq => by
          rcases List.mem_append.1 hq with hq | hq
          · rcases List.mem_cons.1 hq with rfl | hq
            · exact ⟨by have := HZ9.out; have := HZ11.out; have := HZ13.out; have := HZ15.out; have := HZ1.out; have := HX15.out.lt; omega, by omega, .inr rfl⟩
            · have := HSN.out.2 q hq; have := HZ9.out; have := HZ11.out; have := HZ13.out; have := HZ15.out; exact ⟨by omega, by omega, .inl (by omega)⟩
          · have := HL11.out.2.2.2 q hq; have := HZ9.out; have := HZ13.out; have := HZ15.out; have := HB9.out.size; have := HX9.out.lt; exact ⟨by omega, by omega, .inl (by omega)⟩)
        have hndb : ((w15.heap.size :: sn) ++ sl).Nodup := by
          refine List.nodup_append.2 ⟨List.nodup_cons.2 ⟨fun h => ?_, HSN.out.1⟩, HL11.out.2.2.1, fun q hq r hr e => ?_⟩
          · have := (HSN.out.2 _ h).2; have := HZ9.out; have := HZ11.out; have := HZ13.out; have := HZ15.out; omega
          · have h1 := HL11.out.2.2.2 r hr; have := HZ9.out; have := HZ13.out; have := HZ15.out
            rcases List.mem_cons.1 hq with rfl | hq
            · omega
            · have := (HSN.out.2 q hq).2; omega
        have HSP := Lib.hid (spoilG_any _ _ _ W16 hgs hndb (fun q hq => (HBS.out q hq).2.1))
        have HW16 := Lib.hid hW16
        have HB16 := Lib.hid (HB15.out.trans (hb16.mono HB15.out.size))
        have HX16 := Lib.hid (HX15.out.below hb16 HX15.out.lt)
        have HOB16 := Lib.hid (HOB15.out.below hb16 HOB15.out.lt)
        have HGO16 := Lib.hid (HGO15.out.same (fun q hq => hb16.block q (by have := (HSO.out q hq).2; have := HZ13.out; have := HZ15.out; omega)))
        have HZ16 := Lib.hid hz16
        have k0 : w15.cell? ⟨w2.heap.size, 0, none⟩ = some (.int .i64 n.id) := HNB15.out.cell rfl
        have k1 : w15.cell? ⟨w2.heap.size, 1, none⟩ = some (.slice la n.labels.length lc) := HNB15.out.cell rfl
        have k2 : w15.cell? ⟨w2.heap.size, 2, none⟩ = some (.slice ka n.keys.length kc) := HNB15.out.cell rfl
        have k3 : w15.cell? ⟨w2.heap.size, 3, none⟩ = some (.slice va n.vals.length vc) := HNB15.out.cell rfl
        clear hb15 hb35 hW16 hb16 hrb hno16 hl16 hgs hz16 hndb
        go_wp2_with fail
        rw [HW16.out]
        refine HSP.out.mono ?_
        rintro e w17 ⟨rfl, hk17⟩
        clear k0 k1 k2 k3
        have hB17 : Below (w.heap.size + 1) W16 w17 := hk17.below (fun q hq => (HBS.out q hq).1) (by have := HX16.out.lt; omega)
        have HB17 := Lib.hid (HB16.out.trans (hB17.mono (by omega)))
        have HX17 := Lib.hid (HX16.out.of_heap (hB17.block _ (by omega)))
        have HOB17 := Lib.hid (HOB16.out.of_heap (hk17.block _ HOB16.out.lt (fun h => by have := (HBS.out _ h).2.2; have := HZ13.out; have := HZ15.out; omega)))
        have HGO17 := Lib.hid (HGO16.out.same (fun q hq => hk17.block q (by have := (HSO.out q hq).2; have := HZ13.out; have := HZ15.out; have := HZ16.out; omega) (fun h => by have := (HBS.out _ h).2.2; have := HSO.out q hq; have := HZ13.out; have := HZ15.out; omega)))
        have HZ17 := Lib.hid hk17.size
        clear hk17 hB17
        have f0 := HX17.out.cell (i := 0) rfl
        have f1 := HX17.out.cell (i := 1) rfl
        go_wp2_with fail
        refine (HCO.out _ HB17.out).mono ?_
        rintro e w18 ⟨cc, sc, rfl, hb18, hgc, hsc, hrc⟩
        have HB18 := Lib.hid (HB17.out.trans (hb18.mono HB17.out.size))
        have HX18 := Lib.hid (HX17.out.below hb18 HX17.out.lt)
        clear f0 f1
        have HSP2 := Lib.hid (spoilG_any g cc sc w18 hgc hsc (fun q hq => (hrc q hq).2))
        have HRC2 := Lib.hid hrc
        have HB18' := Lib.hid hb18
        have hgc2 := hgc
        obtain ⟨pa, pc, pb, pd, p1, p2, rfl, -⟩ := hgc2
        clear hgc hsc hrc hb18
        go_wp2_with fail
        refine HSP2.out.mono ?_
        rintro e w19 ⟨rfl, hk19⟩
        have hb19 : Below w17.heap.size w17 w19 := HB18'.out.trans (hk19.below (fun q hq => (HRC2.out q hq).1) HB18'.out.size)
        have HB19 := Lib.hid (HB17.out.trans (hb19.mono HB17.out.size))
        have HX19 := Lib.hid (HX17.out.below hb19 HX17.out.lt)
        have HOB19 := Lib.hid (HOB17.out.below hb19 HOB17.out.lt)
        have hgo19 := HGO17.out.same (fun q hq => hb19.block q (by have := (HSO.out q hq).2; have := HZ13.out; have := HZ15.out; have := HZ16.out; have := HZ17.out; omega))
        have HC20 := Lib.hid (sameG_any g g _ _ w19.heap.size w19 ((HGG.out _ HB19.out).mono HB19.out.size) (hgo19.isG (fun q hq => by have := (HSO.out q hq).2; have := HZ13.out; have := HZ15.out; have := HZ16.out; have := HZ17.out; have := hb19.size; omega)) (Nat.le_refl _))
        rw [(sameG_iff g g).2 rfl] at HC20
        clear hk19 hb19 hgo19
        have f0 := HX19.out.cell (i := 0) rfl
        have f1 := HX19.out.cell (i := 1) rfl
        have g0 := HOB19.out.cell (i := 0) rfl
        have g1 := HOB19.out.cell (i := 1) rfl
        go_wp2_with fail
        refine HC20.out.mono ?_
        rintro e w20 ⟨rfl, hb20⟩
        have HB20 := Lib.hid (HB19.out.trans (hb20.mono HB19.out.size))
        clear f0 f1 g0 g1 hb20
        go_wp2_with fail
        refine (gworks_any w20).mono ?_
        rintro e wl ⟨rfl, hbl⟩
        have HBL := Lib.hid (HB20.out.trans (hbl.mono HB20.out.size))
        clear hbl
        go_wp2_with fail
        exact HQ.out _ HBL.out
      | false =>
        obtain rfl : at1 = -1 := by rw [← HAT1.out]; exact idxOf_neg HI1.out HMG.out.riseN
        have hnz : n = zeroN := by rw [← HNN.out]; exact nodeOf_no HI1.out
        have HSN2 := Lib.hid (fun u : Ext w7.heap.size w7 => ext_call u (Nat.le_refl _) (sameNode2_any n zeroN _ [.int .i64 0, .slice none 0 0, .slice none 0 0, .slice none 0 0] u.w.heap.size u.w (HNR.out u) ((zeroN_own u.w).isN (fun q hq => by simp at hq)) (Nat.le_refl _)))
        rw [(sameN_iff n zeroN).2 hnz] at HSN2
        clear hnz
        obtain rfl : at2 = -1 := by rw [← HAT2.out]; exact idxOf_neg HI2.out HMG.out.riseE
        have hdz : d = zeroE := by rw [← HDD.out]; exact edgeOf_no HI2.out
        have HSE2 := Lib.hid (fun u : Ext w7.heap.size w7 => ext_call u (Nat.le_refl _) (sameEdge2_any d zeroE _ [.int .i64 0, .int .i64 0, .int .i64 0, .string ⟨#[]⟩, .slice none 0 0, .slice none 0 0] u.w.heap.size u.w (HER.out u) ((zeroE_own u.w).isE (fun q hq => by simp at hq)) (Nat.le_refl _)))
        rw [(sameE_iff d zeroE).2 hdz] at HSE2
        clear hdz
        clear HAT1 HAT2
        go_wp2_with fail
        rw [HU7.out]
        refine wp_region_at u7 (by kernel_rfl) (by kernel_rfl) ?_
        repeat (go_big_quiet_step (first | (with_reducible exact HSN2.out _) | (with_reducible exact HSE2.out _)))
        refine wpQuiet_nil ?_
        rintro w8 ⟨u8, rfl⟩
        go_wp2_with fail
        refine (HSN2.out u8).mono ?_
        rintro e wA ⟨rfl, uA, rfl⟩
        go_wp2_with fail
        refine (HSE2.out uA).mono ?_
        rintro e wB ⟨rfl, uB, rfl⟩
        obtain ⟨u9, hu9⟩ : ∃ u9, uB = u9 := ⟨_, rfl⟩
        rw [hu9]
        clear hu9
        have HX9 := Lib.hid (HX7.out.below u9.below HX7.out.lt)
        have HB9 := Lib.hid (HBU.out u9)
        have HNB9 := Lib.hid (HNB7.out.below u9.below HNB7.out.lt)
        have HNO9 := Lib.hid (ownIsNO.same HNO7.out (fun q hq => u9.below.block q (by have := (HSN.out.2 q hq).2; have := HZ7.out; omega)))
        have HZ9 := Lib.hid (show w2.heap.size < u9.w.heap.size by have := u9.below.size; have := HZ7.out; omega)
        clear f0 f1 n0 n1 n2 n3 e0 e1 e2 e3 e4 e5
        obtain ⟨w9, hw9⟩ : ∃ x, u9.w = x := ⟨_, rfl⟩
        rw [hw9] at HX9 HB9 HNB9 HNO9 HZ9 ⊢
        clear hw9 u9
        have f0 := HX9.out.cell (i := 0) rfl
        have f1 := HX9.out.cell (i := 1) rfl
        go_wp2_with fail
        refine (HAR.out _ HB9.out).mono ?_
        rintro e w11 ⟨ra, rc, sl, rfl, hb11, hrl, hrow, hsl, hrr⟩
        have HB11 := Lib.hid (HB9.out.trans (hb11.mono HB9.out.size))
        have HX11 := Lib.hid (HX9.out.below hb11 HX9.out.lt)
        have HNB11 := Lib.hid (HNB9.out.below hb11 HNB9.out.lt)
        have HNO11 := Lib.hid (ownIsNO.same HNO9.out (fun q hq => hb11.block q (by have := (HSN.out.2 q hq).2; have := HZ9.out; omega)))
        have HL11 := Lib.hid (show _ ∧ _ ∧ _ ∧ _ from ⟨hrl, hrow, hsl, hrr⟩)
        have HZ11 := Lib.hid hb11.size
        clear f0 f1 hrl hrow hsl hrr hb11
        obtain ⟨L, hL⟩ : ∃ L, aroundG g id dir of = L := ⟨_, rfl⟩
        rw [hL] at HL11 HRA ⊢
        have hLl := HLN.out L hL.symm
        clear hL
        have f0 := HX11.out.cell (i := 0) rfl
        have f1 := HX11.out.cell (i := 1) rfl
        go_wp2_with fail
        refine (HRC.out _ HB11.out).mono ?_
        rintro e w12 ⟨co, so, rfl, hb12, hgo, hso, hro⟩
        have HB12 := Lib.hid (HB11.out.trans (hb12.mono HB11.out.size))
        have HX12 := Lib.hid (HX11.out.below hb12 HX11.out.lt)
        clear f0 f1
        have hgo2 := hgo
        obtain ⟨oa, oc, ob, od, o1, o2, rfl, -⟩ := hgo2
        obtain ⟨W13, hW13⟩ : ∃ W, w12.alloc (.cells #[.slice oa g.nodes.length oc, .slice ob g.edges.length od] 25) = W := ⟨_, rfl⟩
        have hb13 : Below w12.heap.size w12 W13 := by rw [← hW13]; exact (Below.refl _ _).alloc (Nat.le_refl _) _
        have HOB13 : Hid (Block W13 w12.heap.size [.slice oa g.nodes.length oc, .slice ob g.edges.length od] 25) := Lib.hid (by rw [← hW13]; exact Block.new w12 _ _)
        have HB13 := Lib.hid (HB12.out.trans (hb13.mono HB12.out.size))
        have HX13 := Lib.hid (HX12.out.below hb13 HX12.out.lt)
        have HGO13 := Lib.hid (hgo.same (fun q hq => hb13.block q (hro q hq).2))
        have HSO := Lib.hid hro
        have HZ13 := Lib.hid (show w11.heap.size ≤ w12.heap.size ∧ w12.heap.size + 1 = W13.heap.size from ⟨hb12.size, by rw [← hW13]; simp⟩)
        have hb23 := hb12.trans (hb13.mono hb12.size)
        have HNB13 := Lib.hid (HNB11.out.below hb23 HNB11.out.lt)
        have HNO13 := Lib.hid (ownIsNO.same HNO11.out (fun q hq => hb23.block q (by have := (HSN.out.2 q hq).2; have := HZ9.out; have := HZ11.out; omega)))
        have HL13 := Lib.hid (HL11.out.2.1.same ownIsEO (fun q hq => hb23.block q (HL11.out.2.2.2 q hq).2))
        have HW13 := Lib.hid hW13
        have f0 := HX13.out.cell (i := 0) rfl
        have f1 := HX13.out.cell (i := 1) rfl
        rw [← hW13] at f0 f1
        clear hgo hso hro hb12 hb13 hb23 hW13
        go_wp2_with fail
        rw [HW13.out]
        refine (HRA.out _ HB13.out).mono ?_
        rintro e w14 ⟨xa, xc, sx, rfl, hb14, hxl, hxrow, -, hxr⟩
        have HB14 := Lib.hid (HB13.out.trans (hb14.mono HB13.out.size))
        have HX14 := Lib.hid (HX13.out.below hb14 HX13.out.lt)
        clear f0 f1
        have HC15 := Lib.hid (sameEdges_any L L ra xa rc xc w14.heap.size w14 ((HL13.out.same ownIsEO (fun q hq => hb14.block q (by have := (HL11.out.2.2.2 q hq).2; have := HZ13.out; omega))).toR ownIsEO (fun q hq => by have := (HL11.out.2.2.2 q hq).2; have := HZ13.out; have := hb14.size; omega) (fun cs x b hx hb => hx.isE hb)) (hxrow.toR ownIsEO (fun q hq => (hxr q hq).2) (fun cs x b hx hb => hx.isE hb)) (Nat.le_refl _) (by omega) (by omega))
        rw [(sameL_iff sameE_iff L L).2 rfl] at HC15
        have HB14' := Lib.hid hb14
        clear hxl hxrow hxr hb14
        go_wp2_with fail
        refine HC15.out.mono ?_
        rintro e w15 ⟨rfl, hb15⟩
        have hb35 := HB14'.out.trans (hb15.mono HB14'.out.size)
        have HB15 := Lib.hid (HB13.out.trans (hb35.mono HB13.out.size))
        have HX15 := Lib.hid (HX13.out.below hb35 HX13.out.lt)
        have HNB15 := Lib.hid (HNB13.out.below hb35 HNB13.out.lt)
        have HOB15 := Lib.hid (HOB13.out.below hb35 HOB13.out.lt)
        have HNO15 := Lib.hid (ownIsNO.same HNO13.out (fun q hq => hb35.block q (by have := (HSN.out.2 q hq).2; have := HZ9.out; have := HZ11.out; have := HZ13.out; omega)))
        have HL15 := Lib.hid (HL13.out.same ownIsEO (fun q hq => hb35.block q (by have := (HL11.out.2.2.2 q hq).2; have := HZ13.out; omega)))
        have HGO15 := Lib.hid (HGO13.out.same (fun q hq => hb35.block q (by have := (HSO.out q hq).2; have := HZ13.out; omega)))
        have HZ15 := Lib.hid hb35.size
        obtain ⟨W16, hW16⟩ : ∃ W, w15.alloc (.cells #[.int .i64 n.id, .slice la n.labels.length lc, .slice ka n.keys.length kc, .slice va n.vals.length vc] 38) = W := ⟨_, rfl⟩
        have hb16 : Below w15.heap.size w15 W16 := by rw [← hW16]; exact (Below.refl _ _).alloc (Nat.le_refl _) _
        have hrb : Block W16 w15.heap.size [.int .i64 n.id, .slice la n.labels.length lc, .slice ka n.keys.length kc, .slice va n.vals.length vc] 38 := by rw [← hW16]; exact Block.new w15 _ _
        have hno16 : IsNO W16 [.int .i64 n.id, .slice la n.labels.length lc, .slice ka n.keys.length kc, .slice va n.vals.length vc] n sn := ownIsNO.same HNO15.out (fun q hq => hb16.block q (by have := (HSN.out.2 q hq).2; have := HZ9.out; have := HZ11.out; have := HZ13.out; have := HZ15.out; omega))
        have hl16 := HL15.out.same ownIsEO (fun q hq => hb16.block q (by have := (HL11.out.2.2.2 q hq).2; have := HZ13.out; have := HZ15.out; omega))
        have hgs : IsGO W16 [.slice (some ⟨w15.heap.size, 0, none⟩) 1 1, .slice ra L.length rc] ⟨[n], L⟩ ((w15.heap.size :: sn) ++ sl) := ⟨some ⟨w15.heap.size, 0, none⟩, 1, ra, rc, _, _, rfl, ⟨⟨⟨by simp, by decide⟩, fun h => by cases h⟩, HL11.out.1⟩, rfl, OwnRw.one ownIsNO hrb hno16, hl16⟩
        have hz16 : W16.heap.size = w15.heap.size + 1 := by rw [← hW16]; simp
        have HBS : Hid (∀ q ∈ (w15.heap.size :: sn) ++ sl, w.heap.size + 1 ≤ q ∧ q < W16.heap.size ∧ (q < w11.heap.size ∨ q = w15.heap.size)) := Lib.hid (fun q hq => by
          rcases List.mem_append.1 hq with hq | hq
          · rcases List.mem_cons.1 hq with rfl | hq
            · exact ⟨by have := HZ9.out; have := HZ11.out; have := HZ13.out; have := HZ15.out; have := HZ1.out; have := HX15.out.lt; omega, by omega, .inr rfl⟩
            · have := HSN.out.2 q hq; have := HZ9.out; have := HZ11.out; have := HZ13.out; have := HZ15.out; exact ⟨by omega, by omega, .inl (by omega)⟩
          · have := HL11.out.2.2.2 q hq; have := HZ9.out; have := HZ13.out; have := HZ15.out; have := HB9.out.size; have := HX9.out.lt; exact ⟨by omega, by omega, .inl (by omega)⟩)
        have hndb : ((w15.heap.size :: sn) ++ sl).Nodup := by
          refine List.nodup_append.2 ⟨List.nodup_cons.2 ⟨fun h => ?_, HSN.out.1⟩, HL11.out.2.2.1, fun q hq r hr e => ?_⟩
          · have := (HSN.out.2 _ h).2; have := HZ9.out; have := HZ11.out; have := HZ13.out; have := HZ15.out; omega
          · have h1 := HL11.out.2.2.2 r hr; have := HZ9.out; have := HZ13.out; have := HZ15.out
            rcases List.mem_cons.1 hq with rfl | hq
            · omega
            · have := (HSN.out.2 q hq).2; omega
        have HSP := Lib.hid (spoilG_any _ _ _ W16 hgs hndb (fun q hq => (HBS.out q hq).2.1))
        have HW16 := Lib.hid hW16
        have HB16 := Lib.hid (HB15.out.trans (hb16.mono HB15.out.size))
        have HX16 := Lib.hid (HX15.out.below hb16 HX15.out.lt)
        have HOB16 := Lib.hid (HOB15.out.below hb16 HOB15.out.lt)
        have HGO16 := Lib.hid (HGO15.out.same (fun q hq => hb16.block q (by have := (HSO.out q hq).2; have := HZ13.out; have := HZ15.out; omega)))
        have HZ16 := Lib.hid hz16
        have k0 : w15.cell? ⟨w2.heap.size, 0, none⟩ = some (.int .i64 n.id) := HNB15.out.cell rfl
        have k1 : w15.cell? ⟨w2.heap.size, 1, none⟩ = some (.slice la n.labels.length lc) := HNB15.out.cell rfl
        have k2 : w15.cell? ⟨w2.heap.size, 2, none⟩ = some (.slice ka n.keys.length kc) := HNB15.out.cell rfl
        have k3 : w15.cell? ⟨w2.heap.size, 3, none⟩ = some (.slice va n.vals.length vc) := HNB15.out.cell rfl
        clear hb15 hb35 hW16 hb16 hrb hno16 hl16 hgs hz16 hndb
        go_wp2_with fail
        rw [HW16.out]
        refine HSP.out.mono ?_
        rintro e w17 ⟨rfl, hk17⟩
        clear k0 k1 k2 k3
        have hB17 : Below (w.heap.size + 1) W16 w17 := hk17.below (fun q hq => (HBS.out q hq).1) (by have := HX16.out.lt; omega)
        have HB17 := Lib.hid (HB16.out.trans (hB17.mono (by omega)))
        have HX17 := Lib.hid (HX16.out.of_heap (hB17.block _ (by omega)))
        have HOB17 := Lib.hid (HOB16.out.of_heap (hk17.block _ HOB16.out.lt (fun h => by have := (HBS.out _ h).2.2; have := HZ13.out; have := HZ15.out; omega)))
        have HGO17 := Lib.hid (HGO16.out.same (fun q hq => hk17.block q (by have := (HSO.out q hq).2; have := HZ13.out; have := HZ15.out; have := HZ16.out; omega) (fun h => by have := (HBS.out _ h).2.2; have := HSO.out q hq; have := HZ13.out; have := HZ15.out; omega)))
        have HZ17 := Lib.hid hk17.size
        clear hk17 hB17
        have f0 := HX17.out.cell (i := 0) rfl
        have f1 := HX17.out.cell (i := 1) rfl
        go_wp2_with fail
        refine (HCO.out _ HB17.out).mono ?_
        rintro e w18 ⟨cc, sc, rfl, hb18, hgc, hsc, hrc⟩
        have HB18 := Lib.hid (HB17.out.trans (hb18.mono HB17.out.size))
        have HX18 := Lib.hid (HX17.out.below hb18 HX17.out.lt)
        clear f0 f1
        have HSP2 := Lib.hid (spoilG_any g cc sc w18 hgc hsc (fun q hq => (hrc q hq).2))
        have HRC2 := Lib.hid hrc
        have HB18' := Lib.hid hb18
        have hgc2 := hgc
        obtain ⟨pa, pc, pb, pd, p1, p2, rfl, -⟩ := hgc2
        clear hgc hsc hrc hb18
        go_wp2_with fail
        refine HSP2.out.mono ?_
        rintro e w19 ⟨rfl, hk19⟩
        have hb19 : Below w17.heap.size w17 w19 := HB18'.out.trans (hk19.below (fun q hq => (HRC2.out q hq).1) HB18'.out.size)
        have HB19 := Lib.hid (HB17.out.trans (hb19.mono HB17.out.size))
        have HX19 := Lib.hid (HX17.out.below hb19 HX17.out.lt)
        have HOB19 := Lib.hid (HOB17.out.below hb19 HOB17.out.lt)
        have hgo19 := HGO17.out.same (fun q hq => hb19.block q (by have := (HSO.out q hq).2; have := HZ13.out; have := HZ15.out; have := HZ16.out; have := HZ17.out; omega))
        have HC20 := Lib.hid (sameG_any g g _ _ w19.heap.size w19 ((HGG.out _ HB19.out).mono HB19.out.size) (hgo19.isG (fun q hq => by have := (HSO.out q hq).2; have := HZ13.out; have := HZ15.out; have := HZ16.out; have := HZ17.out; have := hb19.size; omega)) (Nat.le_refl _))
        rw [(sameG_iff g g).2 rfl] at HC20
        clear hk19 hb19 hgo19
        have f0 := HX19.out.cell (i := 0) rfl
        have f1 := HX19.out.cell (i := 1) rfl
        have g0 := HOB19.out.cell (i := 0) rfl
        have g1 := HOB19.out.cell (i := 1) rfl
        go_wp2_with fail
        refine HC20.out.mono ?_
        rintro e w20 ⟨rfl, hb20⟩
        have HB20 := Lib.hid (HB19.out.trans (hb20.mono HB19.out.size))
        clear f0 f1 g0 g1 hb20
        go_wp2_with fail
        refine (gworks_any w20).mono ?_
        rintro e wl ⟨rfl, hbl⟩
        have HBL := Lib.hid (HB20.out.trans (hbl.mono HB20.out.size))
        clear hbl
        go_wp2_with fail
        exact HQ.out _ HBL.out
end Go.Proofs.Ytoakloicjlfaaaa

/- The texts G28, G43, G44 of this seat, one behind the other. Conditions: each says its own. -/
import Derived.Test.YtoakloicjlfaaaaRGraphChanges2

/- Layer 14: the reference's Join. Conditions: the graph's numbers rise, the graph is small. -/
namespace Go.Proofs.Ytoakloicjlfaaaa
open Go.RowKit
set_option linter.unusedSimpArgs false
set_option linter.unusedVariables false
set_option maxRecDepth 100000

set_option maxHeartbeats 32000000 in
theorem rjoin_any (g : Gt) (n : Et) (cs ds : List Value) (B : Nat) (w : World) (hg : IsG B w cs g) (hn : IsE B w ds n) (hB : B ≤ w.heap.size) (hr : RiseI (idsN g)) (hre : RiseI (idsE g)) (hsm : SmG g) (hsn : SmE n) :
    Calls Try.prog 43 #[.agg cs.toArray, .agg ds.toArray] w (ResK (joinG g n) w) := by
  have hg0 := hg
  obtain ⟨na, nc, ea, ec, rfl, hnz, hez, hN, hE⟩ := hg
  have hn0 := hn
  obtain ⟨ka, kc, va, vc, rfl⟩ := edge_cells hn0
  show Calls Try.prog 43 #[.agg #[.slice na g.nodes.length nc, .slice ea g.edges.length ec], .agg #[.int .i64 n.id, .int .i64 n.src, .int .i64 n.dst, .string n.ty, .slice ka n.keys.length kc, .slice va n.vals.length vc]] w _
  have hsm0 := hsm
  obtain ⟨⟨hnl, hel⟩, hs1, hs2⟩ := hsm
  obtain ⟨iE, siE, szE, s1E, s2E⟩ := info_parts Try.infoEdge
  obtain ⟨W0, hW0⟩ : ∃ W0, ((w.alloc (.cells #[.slice na g.nodes.length nc, .slice ea g.edges.length ec] 25)).alloc (.cells #[.int .i64 n.id, .int .i64 n.src, .int .i64 n.dst, .string n.ty, .slice ka n.keys.length kc, .slice va n.vals.length vc] 40)).alloc (.cells #[.slice none 0 0, .slice none 0 0] 25) = W0 := ⟨_, rfl⟩
  have HBX : Hid (Bx w [([.slice na g.nodes.length nc, .slice ea g.edges.length ec], 25), ([.int .i64 n.id, .int .i64 n.src, .int .i64 n.dst, .string n.ty, .slice ka n.keys.length kc, .slice va n.vals.length vc], 40), ([.slice none 0 0, .slice none 0 0], 25)] W0) := Lib.hid (by rw [← hW0]; exact ((((((Bx.nil w).alloc rfl [.slice na g.nodes.length nc, .slice ea g.edges.length ec] 25)).alloc (by simp) [.int .i64 n.id, .int .i64 n.src, .int .i64 n.dst, .string n.ty, .slice ka n.keys.length kc, .slice va n.vals.length vc] 40)).alloc (by simp) [.slice none 0 0, .slice none 0 0] 25))
  have HW0 := Lib.hid hW0
  have HM := Lib.hid (fun (w' : World) (hb : Below w.heap.size w w') => rMayEdge_any n _ B w' (hn.below hb hB) (Nat.le_trans hB hb.size))
  have HCP := Lib.hid (fun (w' : World) (hb : Below w.heap.size w w') => rCopyG_own g _ B w' (hg0.below hb hB) (Nat.le_trans hB hb.size) hsm0)
  have HCN := Lib.hid (fun (w' : World) (hb : Below w.heap.size w w') => rCopyEdge_any n _ B w' (hn.below hb hB) (Nat.le_trans hB hb.size) hsn)
  have HAN := Lib.hid (fun (id : Int) (w' : World) (hb : Below w.heap.size w w') => nodeAt_any g id _ B w' (hg0.below hb hB) (Nat.le_trans hB hb.size))
  have HAT := Lib.hid (fun (id : Int) (w' : World) (hb : Below w.heap.size w w') => edgeAt_any g id _ B w' (hg0.below hb hB) (Nat.le_trans hB hb.size))
  have HHI := Lib.hid (hasI_idx hre n.id)
  have HPL := Lib.hid (posI_le (idsE g) n.id)
  have HPT := Lib.hid (fun h => posI_lt (l := idsE g) (id := n.id) h)
  have hil : (idsE g).length = g.edges.length := by unfold idsE; simp
  rw [hil] at HPL HPT
  have HRI := Lib.hid hre
  have HIL := Lib.hid hil
  have HHN := Lib.hid (fun id => (hasI_idx hr id).1)
  have HES := Lib.hid hE
  have i0_0 : W0.cell? ⟨w.heap.size, 0, none⟩ = some (.slice na g.nodes.length nc) := HBX.out.cell 0 0 rfl rfl
  have i0_1 : W0.cell? ⟨w.heap.size, 1, none⟩ = some (.slice ea g.edges.length ec) := HBX.out.cell 0 1 rfl rfl
  have i1_0 : W0.cell? ⟨w.heap.size + 1, 0, none⟩ = some (.int .i64 n.id) := HBX.out.cell 1 0 rfl rfl
  have i1_1 : W0.cell? ⟨w.heap.size + 1, 1, none⟩ = some (.int .i64 n.src) := HBX.out.cell 1 1 rfl rfl
  have i1_2 : W0.cell? ⟨w.heap.size + 1, 2, none⟩ = some (.int .i64 n.dst) := HBX.out.cell 1 2 rfl rfl
  have i1_3 : W0.cell? ⟨w.heap.size + 1, 3, none⟩ = some (.string n.ty) := HBX.out.cell 1 3 rfl rfl
  have i1_4 : W0.cell? ⟨w.heap.size + 1, 4, none⟩ = some (.slice ka n.keys.length kc) := HBX.out.cell 1 4 rfl rfl
  have i1_5 : W0.cell? ⟨w.heap.size + 1, 5, none⟩ = some (.slice va n.vals.length vc) := HBX.out.cell 1 5 rfl rfl
  have i2_0 : W0.cell? ⟨w.heap.size + 2, 0, none⟩ = some (.slice none 0 0) := HBX.out.cell 2 0 rfl rfl
  have i2_1 : W0.cell? ⟨w.heap.size + 2, 1, none⟩ = some (.slice none 0 0) := HBX.out.cell 2 1 rfl rfl
  rw [← hW0] at i0_0 i0_1 i1_0 i1_1 i1_2 i1_3 i1_4 i1_5 i2_0 i2_1
  clear hW0 hg0 hN hE hn hn0 hnz hez hr hre hs1 hs2 hsn hil hsm0
  go_enter Try.func43, Try.ntmps43
  go_wp2_with fail
  (try rw [show w.heap.size + 1 + 1 = w.heap.size + 2 from rfl])
  rw [HW0.out]
  refine (HM.out _ HBX.out.bel).mono ?_
  rintro e w1 ⟨rfl, hb1⟩
  have HBX1 := Lib.hid (HBX.out.below hb1)
  clear i0_0 i0_1 i1_0 i1_1 i1_2 i1_3 i1_4 i1_5 i2_0 i2_1 hb1
  cases hm : mayE n with
  | false =>
    have HP : Hid (joinG g n = (20, noG)) := Lib.hid (by unfold joinG; rw [if_pos hm])
    clear hm
    have f2_0 : w1.cell? ⟨w.heap.size + 2, 0, none⟩ = some (.slice none 0 0) := HBX1.out.cell 2 0 rfl rfl
    have f2_1 : w1.cell? ⟨w.heap.size + 2, 1, none⟩ = some (.slice none 0 0) := HBX1.out.cell 2 1 rfl rfl
    have z2_0 : w1.frozen? ⟨w.heap.size + 2, 0, none⟩ = false := HBX1.out.free 2 0 rfl
    have z2_1 : w1.frozen? ⟨w.heap.size + 2, 1, none⟩ = false := HBX1.out.free 2 1 rfl
    obtain ⟨q0, q1⟩ := two_cells (HBX1.out.blk 2 _ _ rfl) (.slice none 0 0) (.slice none 0 0)
    go_wp2_with fail
    refine bodyPost_ret (by simp [results, Try.results43, go_sem, q0, q1]; rfl) rfl ?_
    rw [HP.out]
    exact (ResP.err _ ((HBX1.out.put 2 0 rfl (.slice none 0 0)).put 2 1 rfl (.slice none 0 0)).bel).resK
  | true =>
    have HMT := Lib.hid hm
    clear hm
    have HN1 : Hid (¬ mayE n = false) := Lib.hid (by rw [HMT.out]; simp)
    have f0_0 : w1.cell? ⟨w.heap.size, 0, none⟩ = some (.slice na g.nodes.length nc) := HBX1.out.cell 0 0 rfl rfl
    have f0_1 : w1.cell? ⟨w.heap.size, 1, none⟩ = some (.slice ea g.edges.length ec) := HBX1.out.cell 0 1 rfl rfl
    have f1_0 : w1.cell? ⟨w.heap.size + 1, 0, none⟩ = some (.int .i64 n.id) := HBX1.out.cell 1 0 rfl rfl
    have f1_1 : w1.cell? ⟨w.heap.size + 1, 1, none⟩ = some (.int .i64 n.src) := HBX1.out.cell 1 1 rfl rfl
    have f1_2 : w1.cell? ⟨w.heap.size + 1, 2, none⟩ = some (.int .i64 n.dst) := HBX1.out.cell 1 2 rfl rfl
    have f1_3 : w1.cell? ⟨w.heap.size + 1, 3, none⟩ = some (.string n.ty) := HBX1.out.cell 1 3 rfl rfl
    have f1_4 : w1.cell? ⟨w.heap.size + 1, 4, none⟩ = some (.slice ka n.keys.length kc) := HBX1.out.cell 1 4 rfl rfl
    have f1_5 : w1.cell? ⟨w.heap.size + 1, 5, none⟩ = some (.slice va n.vals.length vc) := HBX1.out.cell 1 5 rfl rfl
    go_wp2_with fail
    refine (HAN.out n.src _ HBX1.out.bel).mono ?_
    rintro e w1b ⟨rfl, hb9⟩
    have HBX1b := Lib.hid (HBX1.out.below hb9)
    clear f0_0 f0_1 f1_0 f1_1 f1_2 f1_3 f1_4 f1_5 hb9
    obtain ⟨xsrc, hxsrc⟩ : ∃ x, idxOf (g.nodes.map (·.id)) n.src = x := ⟨_, rfl⟩
    have HXsrc : Hid (hasI (idsN g) n.src = decide (0 ≤ xsrc)) := Lib.hid (by rw [← hxsrc]; exact HHN.out n.src)
    rw [hxsrc]
    clear hxsrc
    by_cases hsrc : 0 ≤ xsrc
    rotate_left
    · skip
      have HP : Hid (joinG g n = (23, noG)) := Lib.hid (by unfold joinG; rw [if_neg HN1.out, if_pos (.inl (by rw [HXsrc.out]; exact decide_eq_false hsrc))])
      have hsrc' : xsrc < 0 := by omega
      have f2_0 : w1b.cell? ⟨w.heap.size + 2, 0, none⟩ = some (.slice none 0 0) := HBX1b.out.cell 2 0 rfl rfl
      have f2_1 : w1b.cell? ⟨w.heap.size + 2, 1, none⟩ = some (.slice none 0 0) := HBX1b.out.cell 2 1 rfl rfl
      have z2_0 : w1b.frozen? ⟨w.heap.size + 2, 0, none⟩ = false := HBX1b.out.free 2 0 rfl
      have z2_1 : w1b.frozen? ⟨w.heap.size + 2, 1, none⟩ = false := HBX1b.out.free 2 1 rfl
      obtain ⟨q0, q1⟩ := two_cells (HBX1b.out.blk 2 _ _ rfl) (.slice none 0 0) (.slice none 0 0)
      go_wp2_with fail
      refine bodyPost_ret (by simp [results, Try.results43, go_sem, q0, q1]; rfl) rfl ?_
      rw [HP.out]
      exact (ResP.err _ ((HBX1b.out.put 2 0 rfl (.slice none 0 0)).put 2 1 rfl (.slice none 0 0)).bel).resK
    have Hsrc : Hid (hasI (idsN g) n.src = true) := Lib.hid (by rw [HXsrc.out]; exact decide_eq_true hsrc)
    have hsrc' : ¬ xsrc < 0 := by omega
    have f0_0 : w1b.cell? ⟨w.heap.size, 0, none⟩ = some (.slice na g.nodes.length nc) := HBX1b.out.cell 0 0 rfl rfl
    have f0_1 : w1b.cell? ⟨w.heap.size, 1, none⟩ = some (.slice ea g.edges.length ec) := HBX1b.out.cell 0 1 rfl rfl
    have f1_0 : w1b.cell? ⟨w.heap.size + 1, 0, none⟩ = some (.int .i64 n.id) := HBX1b.out.cell 1 0 rfl rfl
    have f1_1 : w1b.cell? ⟨w.heap.size + 1, 1, none⟩ = some (.int .i64 n.src) := HBX1b.out.cell 1 1 rfl rfl
    have f1_2 : w1b.cell? ⟨w.heap.size + 1, 2, none⟩ = some (.int .i64 n.dst) := HBX1b.out.cell 1 2 rfl rfl
    have f1_3 : w1b.cell? ⟨w.heap.size + 1, 3, none⟩ = some (.string n.ty) := HBX1b.out.cell 1 3 rfl rfl
    have f1_4 : w1b.cell? ⟨w.heap.size + 1, 4, none⟩ = some (.slice ka n.keys.length kc) := HBX1b.out.cell 1 4 rfl rfl
    have f1_5 : w1b.cell? ⟨w.heap.size + 1, 5, none⟩ = some (.slice va n.vals.length vc) := HBX1b.out.cell 1 5 rfl rfl
    go_wp2_with fail
    refine (HAN.out n.dst _ HBX1b.out.bel).mono ?_
    rintro e w1c ⟨rfl, hb9⟩
    have HBX1c := Lib.hid (HBX1b.out.below hb9)
    clear f0_0 f0_1 f1_0 f1_1 f1_2 f1_3 f1_4 f1_5 hb9
    obtain ⟨xdst, hxdst⟩ : ∃ x, idxOf (g.nodes.map (·.id)) n.dst = x := ⟨_, rfl⟩
    have HXdst : Hid (hasI (idsN g) n.dst = decide (0 ≤ xdst)) := Lib.hid (by rw [← hxdst]; exact HHN.out n.dst)
    rw [hxdst]
    clear hxdst
    by_cases hdst : 0 ≤ xdst
    rotate_left
    · skip
      have HP : Hid (joinG g n = (23, noG)) := Lib.hid (by unfold joinG; rw [if_neg HN1.out, if_pos (.inr (by rw [HXdst.out]; exact decide_eq_false hdst))])
      have hdst' : xdst < 0 := by omega
      have f2_0 : w1c.cell? ⟨w.heap.size + 2, 0, none⟩ = some (.slice none 0 0) := HBX1c.out.cell 2 0 rfl rfl
      have f2_1 : w1c.cell? ⟨w.heap.size + 2, 1, none⟩ = some (.slice none 0 0) := HBX1c.out.cell 2 1 rfl rfl
      have z2_0 : w1c.frozen? ⟨w.heap.size + 2, 0, none⟩ = false := HBX1c.out.free 2 0 rfl
      have z2_1 : w1c.frozen? ⟨w.heap.size + 2, 1, none⟩ = false := HBX1c.out.free 2 1 rfl
      obtain ⟨q0, q1⟩ := two_cells (HBX1c.out.blk 2 _ _ rfl) (.slice none 0 0) (.slice none 0 0)
      go_wp2_with fail
      refine bodyPost_ret (by simp [results, Try.results43, go_sem, q0, q1]; rfl) rfl ?_
      rw [HP.out]
      exact (ResP.err _ ((HBX1c.out.put 2 0 rfl (.slice none 0 0)).put 2 1 rfl (.slice none 0 0)).bel).resK
    have Hdst : Hid (hasI (idsN g) n.dst = true) := Lib.hid (by rw [HXdst.out]; exact decide_eq_true hdst)
    have hdst' : ¬ xdst < 0 := by omega
    have HN2 : Hid (¬ (hasI (idsN g) n.src = false ∨ hasI (idsN g) n.dst = false)) := Lib.hid (by rw [Hsrc.out, Hdst.out]; simp)
    have f0_0 : w1c.cell? ⟨w.heap.size, 0, none⟩ = some (.slice na g.nodes.length nc) := HBX1c.out.cell 0 0 rfl rfl
    have f0_1 : w1c.cell? ⟨w.heap.size, 1, none⟩ = some (.slice ea g.edges.length ec) := HBX1c.out.cell 0 1 rfl rfl
    have f1_0 : w1c.cell? ⟨w.heap.size + 1, 0, none⟩ = some (.int .i64 n.id) := HBX1c.out.cell 1 0 rfl rfl
    have f1_1 : w1c.cell? ⟨w.heap.size + 1, 1, none⟩ = some (.int .i64 n.src) := HBX1c.out.cell 1 1 rfl rfl
    have f1_2 : w1c.cell? ⟨w.heap.size + 1, 2, none⟩ = some (.int .i64 n.dst) := HBX1c.out.cell 1 2 rfl rfl
    have f1_3 : w1c.cell? ⟨w.heap.size + 1, 3, none⟩ = some (.string n.ty) := HBX1c.out.cell 1 3 rfl rfl
    have f1_4 : w1c.cell? ⟨w.heap.size + 1, 4, none⟩ = some (.slice ka n.keys.length kc) := HBX1c.out.cell 1 4 rfl rfl
    have f1_5 : w1c.cell? ⟨w.heap.size + 1, 5, none⟩ = some (.slice va n.vals.length vc) := HBX1c.out.cell 1 5 rfl rfl
    go_wp2_with fail
    refine (HCP.out _ HBX1c.out.bel).mono ?_
    rintro e w2 ⟨na', nc', ea', ec', c1, c2, b1, b2, M, rfl, hb2, hRN, hMM, hRE, hwM⟩
    have HBX2 := Lib.hid (HBX1c.out.below hb2)
    have HRN := Lib.hid hRN
    have HRE := Lib.hid hRE
    have HMM := Lib.hid hMM
    have HWM := Lib.hid hwM
    have HB2 := Lib.hid hb2
    have HB2 := Lib.hid hb2
    clear f0_0 f0_1 f1_0 f1_1 f1_2 f1_3 f1_4 f1_5 hRN hRE hMM hwM hb2
    obtain ⟨w2a, hw2a⟩ : ∃ w', w2.alloc (.cells #[.slice na' g.nodes.length nc', .slice ea' g.edges.length ec'] 25) = w' := ⟨_, rfl⟩
    have hb2a : Below w2.heap.size w2 w2a := by rw [← hw2a]; exact (Below.refl _ _).alloc (Nat.le_refl _) _
    have hz2a : w2a.heap.size = w2.heap.size + 1 := by rw [← hw2a]; simp
    have HBX2a := Lib.hid (HBX2.out.below hb2a)
    have HBO2a : Hid (Block w2a w2.heap.size [.slice na' g.nodes.length nc', .slice ea' g.edges.length ec'] 25) := Lib.hid (by rw [← hw2a]; exact Block.new _ _ _)
    have HZ2a := Lib.hid hz2a
    have HB2a := Lib.hid hb2a
    have HW2a := Lib.hid hw2a
    have f0_0 : w2a.cell? ⟨w.heap.size, 0, none⟩ = some (.slice na g.nodes.length nc) := HBX2a.out.cell 0 0 rfl rfl
    have f0_1 : w2a.cell? ⟨w.heap.size, 1, none⟩ = some (.slice ea g.edges.length ec) := HBX2a.out.cell 0 1 rfl rfl
    have f1_0 : w2a.cell? ⟨w.heap.size + 1, 0, none⟩ = some (.int .i64 n.id) := HBX2a.out.cell 1 0 rfl rfl
    have f1_1 : w2a.cell? ⟨w.heap.size + 1, 1, none⟩ = some (.int .i64 n.src) := HBX2a.out.cell 1 1 rfl rfl
    have f1_2 : w2a.cell? ⟨w.heap.size + 1, 2, none⟩ = some (.int .i64 n.dst) := HBX2a.out.cell 1 2 rfl rfl
    have f1_3 : w2a.cell? ⟨w.heap.size + 1, 3, none⟩ = some (.string n.ty) := HBX2a.out.cell 1 3 rfl rfl
    have f1_4 : w2a.cell? ⟨w.heap.size + 1, 4, none⟩ = some (.slice ka n.keys.length kc) := HBX2a.out.cell 1 4 rfl rfl
    have f1_5 : w2a.cell? ⟨w.heap.size + 1, 5, none⟩ = some (.slice va n.vals.length vc) := HBX2a.out.cell 1 5 rfl rfl
    rw [← hw2a] at f0_0 f0_1 f1_0 f1_1 f1_2 f1_3 f1_4 f1_5
    clear hw2a hb2a hz2a
    go_wp2_with fail
    rw [HW2a.out]
    refine (HCN.out _ HBX2a.out.bel).mono ?_
    rintro e w3 ⟨cs3, bs3, rfl, hb3, ho3, hn3, hr3⟩
    clear f0_0 f0_1 f1_0 f1_1 f1_2 f1_3 f1_4 f1_5
    have ho4 := ho3
    obtain ⟨ka', kc', va', vc', q1, q2, rfl, -⟩ := ho4
    have HBX3 := Lib.hid (HBX2a.out.below hb3)
    obtain ⟨w4, hw4⟩ : ∃ w4, ((((((w3.setCell ⟨w.heap.size + 1, 0, none⟩ (.int .i64 n.id)).setCell ⟨w.heap.size + 1, 1, none⟩ (.int .i64 n.src)).setCell ⟨w.heap.size + 1, 2, none⟩ (.int .i64 n.dst)).setCell ⟨w.heap.size + 1, 3, none⟩ (.string n.ty)).setCell ⟨w.heap.size + 1, 4, none⟩ (.slice ka' n.keys.length kc')).setCell ⟨w.heap.size + 1, 5, none⟩ (.slice va' n.vals.length vc')) = w4 := ⟨_, rfl⟩
    have HBX4 : Hid (Bx w [([.slice na g.nodes.length nc, .slice ea g.edges.length ec], 25), ([.int .i64 n.id, .int .i64 n.src, .int .i64 n.dst, .string n.ty, .slice ka' n.keys.length kc', .slice va' n.vals.length vc'], 40), ([.slice none 0 0, .slice none 0 0], 25)] w4) := Lib.hid (by rw [← hw4]; exact ((((((HBX3.out.put 1 0 rfl (.int .i64 n.id)).put 1 1 rfl (.int .i64 n.src)).put 1 2 rfl (.int .i64 n.dst)).put 1 3 rfl (.string n.ty)).put 1 4 rfl (.slice ka' n.keys.length kc')).put 1 5 rfl (.slice va' n.vals.length vc')))
    have hz4 : w4.heap.size = w3.heap.size := by rw [← hw4]; simp [World.setCell]
    have hk4 : ∀ q, q ≠ w.heap.size + 1 → w4.heap[q]? = w3.heap[q]? := fun q hq => by rw [← hw4, Below.heap_setCell _ _ _ _ (by show q ≠ w.heap.size + 1; exact hq), Below.heap_setCell _ _ _ _ (by show q ≠ w.heap.size + 1; exact hq), Below.heap_setCell _ _ _ _ (by show q ≠ w.heap.size + 1; exact hq), Below.heap_setCell _ _ _ _ (by show q ≠ w.heap.size + 1; exact hq), Below.heap_setCell _ _ _ _ (by show q ≠ w.heap.size + 1; exact hq), Below.heap_setCell _ _ _ _ (by show q ≠ w.heap.size + 1; exact hq)]
    have HC3 := Lib.hid (show _ ∧ _ ∧ _ ∧ _ from ⟨hb3, ho3, hn3, hr3⟩)
    have HZ4 := Lib.hid hz4
    have HK4 := Lib.hid hk4
    have HW4 := Lib.hid hw4
    have d1_0 : w3.cell? ⟨w.heap.size + 1, 0, none⟩ = some (.int .i64 n.id) := HBX3.out.cell 1 0 rfl rfl
    have d1_1 : w3.cell? ⟨w.heap.size + 1, 1, none⟩ = some (.int .i64 n.src) := HBX3.out.cell 1 1 rfl rfl
    have d1_2 : w3.cell? ⟨w.heap.size + 1, 2, none⟩ = some (.int .i64 n.dst) := HBX3.out.cell 1 2 rfl rfl
    have d1_3 : w3.cell? ⟨w.heap.size + 1, 3, none⟩ = some (.string n.ty) := HBX3.out.cell 1 3 rfl rfl
    have d1_4 : w3.cell? ⟨w.heap.size + 1, 4, none⟩ = some (.slice ka n.keys.length kc) := HBX3.out.cell 1 4 rfl rfl
    have d1_5 : w3.cell? ⟨w.heap.size + 1, 5, none⟩ = some (.slice va n.vals.length vc) := HBX3.out.cell 1 5 rfl rfl
    have z1_0 : w3.frozen? ⟨w.heap.size + 1, 0, none⟩ = false := HBX3.out.free 1 0 rfl
    have z1_1 : w3.frozen? ⟨w.heap.size + 1, 1, none⟩ = false := HBX3.out.free 1 1 rfl
    have z1_2 : w3.frozen? ⟨w.heap.size + 1, 2, none⟩ = false := HBX3.out.free 1 2 rfl
    have z1_3 : w3.frozen? ⟨w.heap.size + 1, 3, none⟩ = false := HBX3.out.free 1 3 rfl
    have z1_4 : w3.frozen? ⟨w.heap.size + 1, 4, none⟩ = false := HBX3.out.free 1 4 rfl
    have z1_5 : w3.frozen? ⟨w.heap.size + 1, 5, none⟩ = false := HBX3.out.free 1 5 rfl
    have f0_0 : w4.cell? ⟨w.heap.size, 0, none⟩ = some (.slice na g.nodes.length nc) := HBX4.out.cell 0 0 rfl rfl
    have f0_1 : w4.cell? ⟨w.heap.size, 1, none⟩ = some (.slice ea g.edges.length ec) := HBX4.out.cell 0 1 rfl rfl
    have f1_0 : w4.cell? ⟨w.heap.size + 1, 0, none⟩ = some (.int .i64 n.id) := HBX4.out.cell 1 0 rfl rfl
    rw [← hw4] at f0_0 f0_1 f1_0
    clear hw4 hk4 hz4 hb3 ho3 hn3 hr3
    go_wp2_with fail
    rw [HW4.out]
    refine (HAT.out n.id _ HBX4.out.bel).mono ?_
    rintro e w5 ⟨rfl, hb5⟩
    clear d1_0 d1_1 d1_2 d1_3 d1_4 d1_5
    clear z1_0 z1_1 z1_2 z1_3 z1_4 z1_5
    clear f0_0 f0_1 f1_0
    have HBX5 := Lib.hid (HBX4.out.below hb5)
    have HB5 := Lib.hid hb5
    clear hb5
    have HLT : Hid (w.heap.size + 3 ≤ w1c.heap.size ∧ w1c.heap.size ≤ w2.heap.size ∧ w2.heap.size + 1 ≤ w3.heap.size ∧ w3.heap.size ≤ w5.heap.size) := Lib.hid (by have h1 := HBX1c.out.len; have h2 := HB2.out.size; have h3 := HC3.out.1.size; have h4 := HB5.out.size; have h5 := HZ4.out; have h6 := HZ2a.out; simp at h1; omega)
    have HK5 : Hid (∀ q, q < w3.heap.size → q ≠ w.heap.size + 1 → w5.heap[q]? = w3.heap[q]?) := Lib.hid (fun q h1 h2 => by rw [HB5.out.block q (by have := HZ4.out; omega), HK4.out q h2])
    have HK2 : Hid (∀ q, q < w2.heap.size → q ≠ w.heap.size + 1 → w5.heap[q]? = w2.heap[q]?) := Lib.hid (fun q h1 h2 => by have := HLT.out; rw [HK5.out q (by omega) h2, HC3.out.1.block q (by have := HZ2a.out; omega), HB2a.out.block q h1])
    have HRN5 := Lib.hid (HRN.out.keep ownIsNO (w' := w5) (fun q hq => HK2.out q (by rcases hq with hq | hq; exact (HRN.out.lt q hq).2; exact (HRN.out.own.lt q hq).2) (by have h9 : w1c.heap.size ≤ q := (by rcases hq with hq | hq; exact (HRN.out.lt q hq).1; exact (HRN.out.own.lt q hq).1); have := HLT.out; omega)) (by have := HLT.out; omega))
    have HRE5 := Lib.hid (HRE.out.keep ownIsEO (w' := w5) (fun q hq => HK2.out q (by rcases hq with hq | hq; exact (HRE.out.lt q hq).2; exact (HRE.out.own.lt q hq).2) (by have h9 : M ≤ q := (by rcases hq with hq | hq; exact (HRE.out.lt q hq).1; exact (HRE.out.own.lt q hq).1); have := HLT.out; have := HWM.out; omega)) (by have := HLT.out; omega))
    have HXN : Hid (IsEO w5 [.int .i64 n.id, .int .i64 n.src, .int .i64 n.dst, .string n.ty, .slice ka' n.keys.length kc', .slice va' n.vals.length vc'] n bs3) := Lib.hid (ownIsEO.same HC3.out.2.1 (fun q hq => HK5.out q (HC3.out.2.2.2 q hq).2 (by have h9 := (HC3.out.2.2.2 q hq).1; have := HZ2a.out; have := HLT.out; omega)))
    have HBO5 : Hid (Block w5 w2.heap.size [.slice na' g.nodes.length nc', .slice ea' g.edges.length ec'] 25) := Lib.hid (HBO2a.out.of_heap (by have := HLT.out; rw [HK5.out _ (by omega) (by omega), HC3.out.1.block _ (by have := HZ2a.out; omega)]))
    have HRC := Lib.hid (HRE5.out.base HWM.out)
    have HRO := HRN5
    have HPP : Hid (∀ q, (q ∈ b2 ∨ q ∈ bs3) → w1c.heap.size ≤ q ∧ q < w5.heap.size ∧ q ≠ w2.heap.size ∧ (Value.slice ea' g.edges.length ec').ownBlock ≠ some q) := Lib.hid (fun q hq => by
      have hlt := HLT.out
      have hz := HZ2a.out
      have hro := HRE.out
      rcases hq with hq | hq
      · have h1 := hro.lt q hq; have hwm := HWM.out; exact ⟨by omega, by omega, by omega, hro.ne q hq⟩
      · have h1 := HC3.out.2.2.2 q hq; exact ⟨by omega, by omega, by omega, fun e => by have h2 := (hro.own.lt q e).2; omega⟩)
    obtain ⟨at9, hat9⟩ : ∃ x, idxOf (g.edges.map (·.id)) n.id = x := ⟨_, rfl⟩
    have HI1 : Hid (hasI (idsE g) n.id = decide (0 ≤ at9)) := Lib.hid (by rw [← hat9]; exact HHI.out.1)
    have HI2 : Hid (hasI (idsE g) n.id = true → at9 = posI (idsE g) n.id) := Lib.hid (by rw [← hat9]; exact HHI.out.2)
    rw [hat9]
    clear hat9
    by_cases hat : 0 ≤ at9
    · skip
      have HII : Hid (hasI (idsE g) n.id = true) := Lib.hid (by rw [HI1.out]; exact decide_eq_true hat)
      obtain ⟨p, hp⟩ : ∃ p, posI (idsE g) n.id = p := ⟨_, rfl⟩
      have HPI := Lib.hid hp
      have hpt : p < g.edges.length := by rw [← hp]; exact HPT.out HII.out
      obtain rfl : at9 = p := by rw [← hp]; exact HI2.out HII.out
      clear hp hat
      have hpt' : (p : Int) < g.edges.length := by omega
      have hp0 : (0 : Int) ≤ p := by omega
      obtain ⟨x, hx⟩ := get_some hpt
      have hE2 := HES.out.below HBX5.out.bel hB (fun _ _ h => h.below HBX5.out.bel hB)
      obtain ⟨b, off, cs1, eea, hbB, _, hc, hcell⟩ := hE2.at hx
      obtain ⟨xka, xkc, xva, xvc, rfl⟩ := edge_cells hc
      subst eea
      have kx0 : w5.cell? ⟨b, off + p * 6, none⟩ = some (.int .i64 x.id) := hcell 0 _ rfl
      have kx1 := hcell 1 _ rfl
      have kx2 := hcell 2 _ rfl
      have kx3 := hcell 3 _ rfl
      have kx4 := hcell 4 _ rfl
      have kx5 := hcell 5 _ rfl
      obtain ⟨w5a, hw5a⟩ : ∃ w', w5.alloc (.cells #[.int .i64 x.id, .int .i64 x.src, .int .i64 x.dst, .string x.ty, .slice xka x.keys.length xkc, .slice xva x.vals.length xvc] 40) = w' := ⟨_, rfl⟩
      have hb5a : Below w5.heap.size w5 w5a := by rw [← hw5a]; exact (Below.refl _ _).alloc (Nat.le_refl _) _
      have hz5a : w5a.heap.size = w5.heap.size + 1 := by rw [← hw5a]; simp
      have HBX5a := Lib.hid (HBX5.out.below hb5a)
      have hblk : Block w5a w5.heap.size [.int .i64 x.id, .int .i64 x.src, .int .i64 x.dst, .string x.ty, .slice xka x.keys.length xkc, .slice xva x.vals.length xvc] 40 := by rw [← hw5a]; exact Block.new _ _ _
      have HOT : Hid (otherE g n = !(decide (x.src = n.src) && (decide (x.dst = n.dst) && decide (x.ty = n.ty)))) := Lib.hid (by unfold otherE; rw [HPI.out, hx])
      have m1 : w5a.cell? ⟨w5.heap.size, 1, none⟩ = some (.int .i64 x.src) := hblk.cell rfl
      have m2 : w5a.cell? ⟨w5.heap.size, 2, none⟩ = some (.int .i64 x.dst) := hblk.cell rfl
      have m3 : w5a.cell? ⟨w5.heap.size, 3, none⟩ = some (.string x.ty) := hblk.cell rfl
      have f0_0 : w5.cell? ⟨w.heap.size, 0, none⟩ = some (.slice na g.nodes.length nc) := HBX5.out.cell 0 0 rfl rfl
      have f0_1 : w5.cell? ⟨w.heap.size, 1, none⟩ = some (.slice (some ⟨b, off, none⟩) g.edges.length ec) := HBX5.out.cell 0 1 rfl rfl
      have e1_1 : w5a.cell? ⟨w.heap.size + 1, 1, none⟩ = some (.int .i64 n.src) := HBX5a.out.cell 1 1 rfl rfl
      have e1_2 : w5a.cell? ⟨w.heap.size + 1, 2, none⟩ = some (.int .i64 n.dst) := HBX5a.out.cell 1 2 rfl rfl
      have e1_3 : w5a.cell? ⟨w.heap.size + 1, 3, none⟩ = some (.string n.ty) := HBX5a.out.cell 1 3 rfl rfl
      rw [← hw5a] at m1 m2 m3 e1_1 e1_2 e1_3
      have HRCa := Lib.hid (HRC.out.keep ownIsEO (w' := w5a) (fun q hq => hb5a.block q (by rcases hq with hq | hq; exact (HRC.out.lt q hq).2; exact (HRC.out.own.lt q hq).2)) hb5a.size)
      have HROa := Lib.hid (HRO.out.keep ownIsNO (w' := w5a) (fun q hq => hb5a.block q (by rcases hq with hq | hq; exact (HRO.out.lt q hq).2; exact (HRO.out.own.lt q hq).2)) hb5a.size)
      have HXNa := Lib.hid (ownIsEO.same (w' := w5a) HXN.out (fun q hq => hb5a.block q (HPP.out q (.inr hq)).2.1))
      have HBO5a := Lib.hid (HBO5.out.of_heap (hb5a.block _ HBO5.out.lt))
      have HPPa : Hid (∀ q, (q ∈ b2 ∨ q ∈ bs3) → w1c.heap.size ≤ q ∧ q < w5a.heap.size ∧ q ≠ w2.heap.size ∧ (Value.slice ea' g.edges.length ec').ownBlock ≠ some q) := Lib.hid (fun q hq => ⟨(HPP.out q hq).1, by have := (HPP.out q hq).2.1; omega, (HPP.out q hq).2.2⟩)
      have HLTa : Hid (w.heap.size + 3 ≤ w1c.heap.size ∧ w1c.heap.size ≤ w2.heap.size ∧ w2.heap.size + 1 ≤ w3.heap.size ∧ w3.heap.size ≤ w5a.heap.size) := Lib.hid (by have := HLT.out; omega)
      have HW5A := Lib.hid hw5a
      clear hx hE2 hc hcell hblk hw5a hb5a hz5a hbB
      generalize x.src = s1 at *
      generalize x.dst = d1 at *
      generalize x.ty = y1 at *
      by_cases hsrc : s1 = n.src
      · subst hsrc
        by_cases hdst : d1 = n.dst
        · subst hdst
          by_cases hty : y1 = n.ty
          · subst hty
            clear e1_1 e1_2 e1_3
            obtain rfl := HW5A.out
            have HBX5 := HBX5a
            have HRC := HRCa
            have HRO := HROa
            have HXN := HXNa
            have HBO5 := HBO5a
            have HPP := HPPa
            have HLT := HLTa
            obtain ⟨gb, eg, hg1, hg2⟩ := own_some HRC.out.own (by omega)
            subst eg
            have hgn : ∀ q, q ∈ b2 ∨ q ∈ bs3 → q ≠ gb := fun q hq e => (HPP.out q hq).2.2.2 (by rw [e]; rfl)
            have hgw : gb ≠ w2.heap.size := by have h1 := (HRE.out.own.lt gb rfl).2; omega
            have hgo : ∀ q, q ∈ b1 ∨ (Value.slice na' g.nodes.length nc').ownBlock = some q → q ≠ gb := fun q hq e => by
              have h1 := HMM.out q hq
              have h2 : M ≤ gb := (HRE.out.own.lt gb rfl).1
              omega
            have hflat := (HRC.out.flat ownIsEO (fun _ => IsEO.one) (by decide)).mono (fun cs x h => h.imp (P' := fun q => q ∈ b2 ∨ q ∈ bs3) (fun q hq => .inl hq))
            have HST : Hid (InsSt IsEO (fun q => q ∈ b2 ∨ q ∈ bs3) 40 6 (w1c.heap.size) w [([.slice na g.nodes.length nc, .slice (some ⟨b, off, none⟩) g.edges.length ec], 25), ([.int .i64 n.id, .int .i64 n.src, .int .i64 n.dst, .string n.ty, .slice ka' n.keys.length kc', .slice va' n.vals.length vc'], 40), ([.slice none 0 0, .slice none 0 0], 25)] gb ec' g.edges.length (w5.alloc (.cells #[.int .i64 x.id, .int .i64 n.src, .int .i64 n.dst, .string n.ty, .slice xka x.keys.length xkc, .slice xva x.vals.length xvc] 40)) g.edges c2 (w5.alloc (.cells #[.int .i64 x.id, .int .i64 n.src, .int .i64 n.dst, .string n.ty, .slice xka x.keys.length xkc, .slice xva x.vals.length xvc] 40))) := Lib.hid ⟨HBX5.out, rfl, HRC.out.own, hflat, fun _ _ => rfl, rfl⟩
            have HTH : Hid ((w5.alloc (.cells #[.int .i64 x.id, .int .i64 n.src, .int .i64 n.dst, .string n.ty, .slice xka x.keys.length xkc, .slice xva x.vals.length xvc] 40)).there gb (p * 6) 6) := Lib.hid (own_thereAt HRC.out.own hpt)
            obtain ⟨w6, hw6⟩ : ∃ w6, (w5.alloc (.cells #[.int .i64 x.id, .int .i64 n.src, .int .i64 n.dst, .string n.ty, .slice xka x.keys.length xkc, .slice xva x.vals.length xvc] 40)).setCells gb (p * 6) (#[.int .i64 n.id, .int .i64 n.src, .int .i64 n.dst, .string n.ty, .slice ka' n.keys.length kc', .slice va' n.vals.length vc'] : Array Value).toList = w6 := ⟨_, rfl⟩
            have HST6 : Hid (InsSt IsEO (fun q => q ∈ b2 ∨ q ∈ bs3) 40 6 (w1c.heap.size) w [([.slice na g.nodes.length nc, .slice (some ⟨b, off, none⟩) g.edges.length ec], 25), ([.int .i64 n.id, .int .i64 n.src, .int .i64 n.dst, .string n.ty, .slice ka' n.keys.length kc', .slice va' n.vals.length vc'], 40), ([.slice none 0 0, .slice none 0 0], 25)] gb ec' g.edges.length (w5.alloc (.cells #[.int .i64 x.id, .int .i64 n.src, .int .i64 n.dst, .string n.ty, .slice xka x.keys.length xkc, .slice xva x.vals.length xvc] 40)) (g.edges.set p n) (setMany c2 (p * 6) [.int .i64 n.id, .int .i64 n.src, .int .i64 n.dst, .string n.ty, .slice ka' n.keys.length kc', .slice va' n.vals.length vc']) w6) := Lib.hid (by rw [← hw6]; exact HST.out.put ownIsEO (by have := HLT.out; simp; have := hg1; have := HWM.out; omega) hgn hpt ⟨bs3, HXN.out, fun q hq => .inr hq⟩ (IsEO.one _ _ _ HXN.out))
            have HW6 := Lib.hid hw6
            clear hw6
            have HOK : Hid (∀ q, q ∈ b1 ∨ (Value.slice na' g.nodes.length nc').ownBlock = some q → q ≠ gb ∧ w.heap.size + 2 + 1 ≤ q) := Lib.hid (fun q hq => ⟨hgo q hq, by have h9 : w1c.heap.size ≤ q := (by rcases hq with hq | hq; exact (HRN.out.lt q hq).1; exact (HRN.out.own.lt q hq).1); have := HLT.out; omega⟩)
            have HPK : Hid (∀ q, (q ∈ b2 ∨ q ∈ bs3) → w.heap.size + 2 + 1 ≤ q ∧ q < (w6).heap.size) := Lib.hid (fun q hq => by have h9 := HPP.out q hq; have := HLT.out; have := HWM.out; have h8 := HST6.out.sz; exact ⟨by omega, by rw [h8]; exact h9.2.1⟩)
            have HGB : Hid (w.heap.size + 2 + 1 ≤ gb) := Lib.hid (by have := HLT.out; have := HWM.out; omega)
            have HBX6 : Hid (Bx w [([.slice na g.nodes.length nc, .slice (some ⟨b, off, none⟩) g.edges.length ec], 25), ([.int .i64 n.id, .int .i64 n.src, .int .i64 n.dst, .string n.ty, .slice ka' n.keys.length kc', .slice va' n.vals.length vc'], 40), ([.slice none 0 0, .slice none 0 0], 25)] w6) := Lib.hid HST6.out.bx
            have hbo : Block w6 w2.heap.size [.slice na' g.nodes.length nc', .slice (some ⟨gb, 0, none⟩) g.edges.length ec'] 25 := HBO5.out.of_heap (HST6.out.kp _ (fun e => hgw e.symm))
            have HP : Hid (joinG g n = (0, ⟨g.nodes, g.edges.set p n⟩)) := Lib.hid (by unfold joinG; rw [if_neg HN1.out, if_neg HN2.out, if_neg (by rw [HII.out]; rw [HOT.out]; simp), if_neg (by rw [HII.out]; simp), HPI.out, HII.out, setL_in hpt])
            have e1_0 : (w5.alloc (.cells #[.int .i64 x.id, .int .i64 n.src, .int .i64 n.dst, .string n.ty, .slice xka x.keys.length xkc, .slice xva x.vals.length xvc] 40)).cell? ⟨w.heap.size + 1, 0, none⟩ = some (.int .i64 n.id) := HBX5.out.cell 1 0 rfl rfl
            have e1_1 : (w5.alloc (.cells #[.int .i64 x.id, .int .i64 n.src, .int .i64 n.dst, .string n.ty, .slice xka x.keys.length xkc, .slice xva x.vals.length xvc] 40)).cell? ⟨w.heap.size + 1, 1, none⟩ = some (.int .i64 n.src) := HBX5.out.cell 1 1 rfl rfl
            have e1_2 : (w5.alloc (.cells #[.int .i64 x.id, .int .i64 n.src, .int .i64 n.dst, .string n.ty, .slice xka x.keys.length xkc, .slice xva x.vals.length xvc] 40)).cell? ⟨w.heap.size + 1, 2, none⟩ = some (.int .i64 n.dst) := HBX5.out.cell 1 2 rfl rfl
            have e1_3 : (w5.alloc (.cells #[.int .i64 x.id, .int .i64 n.src, .int .i64 n.dst, .string n.ty, .slice xka x.keys.length xkc, .slice xva x.vals.length xvc] 40)).cell? ⟨w.heap.size + 1, 3, none⟩ = some (.string n.ty) := HBX5.out.cell 1 3 rfl rfl
            have e1_4 : (w5.alloc (.cells #[.int .i64 x.id, .int .i64 n.src, .int .i64 n.dst, .string n.ty, .slice xka x.keys.length xkc, .slice xva x.vals.length xvc] 40)).cell? ⟨w.heap.size + 1, 4, none⟩ = some (.slice ka' n.keys.length kc') := HBX5.out.cell 1 4 rfl rfl
            have e1_5 : (w5.alloc (.cells #[.int .i64 x.id, .int .i64 n.src, .int .i64 n.dst, .string n.ty, .slice xka x.keys.length xkc, .slice xva x.vals.length xvc] 40)).cell? ⟨w.heap.size + 1, 5, none⟩ = some (.slice va' n.vals.length vc') := HBX5.out.cell 1 5 rfl rfl
            have bo1 : (w5.alloc (.cells #[.int .i64 x.id, .int .i64 n.src, .int .i64 n.dst, .string n.ty, .slice xka x.keys.length xkc, .slice xva x.vals.length xvc] 40)).cell? ⟨w2.heap.size, 1, none⟩ = some (.slice (some ⟨gb, 0, none⟩) g.edges.length ec') := HBO5.out.cell rfl
            clear hgn hgw hgo hflat hg1 hg2
            have v0 : w6.cell? ⟨w2.heap.size, 0, none⟩ = some (.slice na' g.nodes.length nc') := hbo.cell rfl
            have v1 : w6.cell? ⟨w2.heap.size, 1, none⟩ = some (.slice (some ⟨gb, 0, none⟩) g.edges.length ec') := hbo.cell rfl
            have HT2 : Hid (w6.there (w.heap.size + 2) 0 2) := Lib.hid (show Block w6 (w.heap.size + 2) [.slice none 0 0, .slice none 0 0] 25 from HBX6.out.blk 2 _ _ rfl).there
            obtain ⟨we, hwe⟩ : ∃ we, w6.setCells (w.heap.size + 2) 0 (#[.slice na' g.nodes.length nc', .slice (some ⟨gb, 0, none⟩) g.edges.length ec'] : Array Value).toList = we := ⟨_, rfl⟩
            have hbe : Block we (w.heap.size + 2) [.slice na' g.nodes.length nc', .slice (some ⟨gb, 0, none⟩) g.edges.length ec'] 25 := by rw [← hwe]; exact ((show Block w6 (w.heap.size + 2) [.slice none 0 0, .slice none 0 0] 25 from HBX6.out.blk 2 _ _ rfl).set 0 _).set 1 _
            have q0 : we.cell? ⟨w.heap.size + 2, 0, none⟩ = some (.slice na' g.nodes.length nc') := hbe.cell rfl
            have q1 : we.cell? ⟨w.heap.size + 2, 1, none⟩ = some (.slice (some ⟨gb, 0, none⟩) g.edges.length ec') := hbe.cell rfl
            have HBE : Hid (Below w.heap.size w we) := Lib.hid (by rw [← hwe]; exact ((HBX6.out.put 2 0 rfl (.slice na' g.nodes.length nc')).put 2 1 rfl (.slice (some ⟨gb, 0, none⟩) g.edges.length ec')).bel)
            have HKE : Hid (∀ q, q ≠ w.heap.size + 2 → we.heap[q]? = w6.heap[q]?) := Lib.hid (fun q hq => by rw [← hwe]; exact setW_other _ _ _ _ _ hq)
            have HZE : Hid (we.heap.size = w6.heap.size) := Lib.hid (by rw [← hwe]; exact setW_size _ _ _ _)
            have HWE := Lib.hid hwe
            clear hbo hbe hwe
            go_wp2_with (first | (refine wpList_store_mid rfl 25 _ _ rfl (w.heap.size + 2) 0 #[.slice na' g.nodes.length nc', .slice (some ⟨gb, 0, none⟩) g.edges.length ec'] rfl rfl HT2.out (by kernel_rfl) (by simp [Value.oneCell']) ?_; rw [HWE.out]) | (refine wpList_store_mid rfl 40 _ _ rfl gb (p * 6) #[.int .i64 n.id, .int .i64 n.src, .int .i64 n.dst, .string n.ty, .slice ka' n.keys.length kc', .slice va' n.vals.length vc'] rfl rfl HTH.out (by kernel_rfl) (by simp [Value.oneCell']) ?_; rw [HW6.out]))
            refine bodyPost_ret (by simp [results, Try.results43, go_sem, q0, q1]; rfl) rfl ?_
            rw [HP.out]
            refine ⟨_, rfl, HBE.out, ?_⟩
            exact (ins_edge (b := w.heap.size + 2) HST6.out HRO.out HOK.out HPK.out HGB.out HKE.out HZE.out).mono (by omega)
          · skip
            have HP : Hid (joinG g n = (20, noG)) := Lib.hid (by unfold joinG; rw [if_neg HN1.out, if_neg HN2.out, if_pos ⟨HII.out, by rw [HOT.out, decide_eq_false hty]; simp⟩])
            have hty1 : (y1.toList == n.ty.toList) = false := by rw [ba_beq]; simpa using hty
            have hty2 : (y1.toList != n.ty.toList) = true := by unfold bne; rw [hty1]; rfl
            have hty3 : ¬ y1.toList = n.ty.toList := by simpa using hty1
            clear hty
            have f2_0 : w5a.cell? ⟨w.heap.size + 2, 0, none⟩ = some (.slice none 0 0) := HBX5a.out.cell 2 0 rfl rfl
            have f2_1 : w5a.cell? ⟨w.heap.size + 2, 1, none⟩ = some (.slice none 0 0) := HBX5a.out.cell 2 1 rfl rfl
            have z2_0 : w5a.frozen? ⟨w.heap.size + 2, 0, none⟩ = false := HBX5a.out.free 2 0 rfl
            have z2_1 : w5a.frozen? ⟨w.heap.size + 2, 1, none⟩ = false := HBX5a.out.free 2 1 rfl
            obtain ⟨q0, q1⟩ := two_cells (HBX5a.out.blk 2 _ _ rfl) (.slice none 0 0) (.slice none 0 0)
            rw [← HW5A.out] at f2_0 f2_1 z2_0 z2_1 q0 q1
            go_wp2_with fail
            refine bodyPost_ret (by simp [results, Try.results43, go_sem, q0, q1]; rfl) rfl ?_
            rw [HP.out]
            rw [HW5A.out]
            exact (ResP.err _ ((HBX5a.out.put 2 0 rfl (.slice none 0 0)).put 2 1 rfl (.slice none 0 0)).bel).resK
        · skip
          have HP : Hid (joinG g n = (20, noG)) := Lib.hid (by unfold joinG; rw [if_neg HN1.out, if_neg HN2.out, if_pos ⟨HII.out, by rw [HOT.out, decide_eq_false hdst]; simp⟩])
          have hdst1 : (d1 == n.dst) = false := by simpa using hdst
          have hdst2 : (d1 != n.dst) = true := by simpa using hdst
          have hdst3 : ¬ d1 = n.dst := hdst
          clear hdst
          have f2_0 : w5a.cell? ⟨w.heap.size + 2, 0, none⟩ = some (.slice none 0 0) := HBX5a.out.cell 2 0 rfl rfl
          have f2_1 : w5a.cell? ⟨w.heap.size + 2, 1, none⟩ = some (.slice none 0 0) := HBX5a.out.cell 2 1 rfl rfl
          have z2_0 : w5a.frozen? ⟨w.heap.size + 2, 0, none⟩ = false := HBX5a.out.free 2 0 rfl
          have z2_1 : w5a.frozen? ⟨w.heap.size + 2, 1, none⟩ = false := HBX5a.out.free 2 1 rfl
          obtain ⟨q0, q1⟩ := two_cells (HBX5a.out.blk 2 _ _ rfl) (.slice none 0 0) (.slice none 0 0)
          rw [← HW5A.out] at f2_0 f2_1 z2_0 z2_1 q0 q1
          go_wp2_with fail
          refine bodyPost_ret (by simp [results, Try.results43, go_sem, q0, q1]; rfl) rfl ?_
          rw [HP.out]
          rw [HW5A.out]
          exact (ResP.err _ ((HBX5a.out.put 2 0 rfl (.slice none 0 0)).put 2 1 rfl (.slice none 0 0)).bel).resK
      · skip
        have HP : Hid (joinG g n = (20, noG)) := Lib.hid (by unfold joinG; rw [if_neg HN1.out, if_neg HN2.out, if_pos ⟨HII.out, by rw [HOT.out, decide_eq_false hsrc]; simp⟩])
        have hsrc1 : (s1 == n.src) = false := by simpa using hsrc
        have hsrc2 : (s1 != n.src) = true := by simpa using hsrc
        have hsrc3 : ¬ s1 = n.src := hsrc
        clear hsrc
        have f2_0 : w5a.cell? ⟨w.heap.size + 2, 0, none⟩ = some (.slice none 0 0) := HBX5a.out.cell 2 0 rfl rfl
        have f2_1 : w5a.cell? ⟨w.heap.size + 2, 1, none⟩ = some (.slice none 0 0) := HBX5a.out.cell 2 1 rfl rfl
        have z2_0 : w5a.frozen? ⟨w.heap.size + 2, 0, none⟩ = false := HBX5a.out.free 2 0 rfl
        have z2_1 : w5a.frozen? ⟨w.heap.size + 2, 1, none⟩ = false := HBX5a.out.free 2 1 rfl
        obtain ⟨q0, q1⟩ := two_cells (HBX5a.out.blk 2 _ _ rfl) (.slice none 0 0) (.slice none 0 0)
        rw [← HW5A.out] at f2_0 f2_1 z2_0 z2_1 q0 q1
        go_wp2_with fail
        refine bodyPost_ret (by simp [results, Try.results43, go_sem, q0, q1]; rfl) rfl ?_
        rw [HP.out]
        rw [HW5A.out]
        exact (ResP.err _ ((HBX5a.out.put 2 0 rfl (.slice none 0 0)).put 2 1 rfl (.slice none 0 0)).bel).resK
    · skip
      have HII : Hid (hasI (idsE g) n.id = false) := Lib.hid (by rw [HI1.out]; exact decide_eq_false hat)
      have hat' : at9 < 0 := by omega
      by_cases hroom : 4096 ≤ g.edges.length
      · have HP : Hid (joinG g n = (8, noG)) := Lib.hid (by unfold joinG; rw [if_neg HN1.out, if_neg HN2.out, if_neg (by rw [HII.out]; simp), if_pos ⟨HII.out, hroom⟩])
        have hbig' : (4096 : Int) ≤ g.edges.length := by omega
        have f0_0 : w5.cell? ⟨w.heap.size, 0, none⟩ = some (.slice na g.nodes.length nc) := HBX5.out.cell 0 0 rfl rfl
        have f0_1 : w5.cell? ⟨w.heap.size, 1, none⟩ = some (.slice ea g.edges.length ec) := HBX5.out.cell 0 1 rfl rfl
        have f2_0 : w5.cell? ⟨w.heap.size + 2, 0, none⟩ = some (.slice none 0 0) := HBX5.out.cell 2 0 rfl rfl
        have f2_1 : w5.cell? ⟨w.heap.size + 2, 1, none⟩ = some (.slice none 0 0) := HBX5.out.cell 2 1 rfl rfl
        have z2_0 : w5.frozen? ⟨w.heap.size + 2, 0, none⟩ = false := HBX5.out.free 2 0 rfl
        have z2_1 : w5.frozen? ⟨w.heap.size + 2, 1, none⟩ = false := HBX5.out.free 2 1 rfl
        obtain ⟨q0, q1⟩ := two_cells (HBX5.out.blk 2 _ _ rfl) (.slice none 0 0) (.slice none 0 0)
        go_wp2_with fail
        refine bodyPost_ret (by simp [results, Try.results43, go_sem, q0, q1]; rfl) rfl ?_
        rw [HP.out]
        exact (ResP.err _ ((HBX5.out.put 2 0 rfl (.slice none 0 0)).put 2 1 rfl (.slice none 0 0)).bel).resK
      · skip
        have hsml : g.edges.length < 4096 := by omega
        have hsml' : (g.edges.length : Int) < 4096 := by omega
        have hsml2 : ¬ (4096 : Int) ≤ g.edges.length := by omega
        have HP : Hid (joinG g n = (0, ⟨g.nodes, setL g.edges (posI (idsE g) n.id) false n⟩)) := Lib.hid (by unfold joinG; rw [if_neg HN1.out, if_neg HN2.out, if_neg (by rw [HII.out]; simp), if_neg (fun h => hroom h.2), HII.out])
        clear hroom hat
        have bo0 : w5.cell? ⟨w2.heap.size, 0, none⟩ = some (.slice na' g.nodes.length nc') := HBO5.out.cell rfl
        have bo1 : w5.cell? ⟨w2.heap.size, 1, none⟩ = some (.slice ea' g.edges.length ec') := HBO5.out.cell rfl
        have bof : w5.frozen? ⟨w2.heap.size, 1, none⟩ = false := HBO5.out.free 1
        have e0_0 : w5.cell? ⟨w.heap.size, 0, none⟩ = some (.slice na g.nodes.length nc) := HBX5.out.cell 0 0 rfl rfl
        have e0_1 : w5.cell? ⟨w.heap.size, 1, none⟩ = some (.slice ea g.edges.length ec) := HBX5.out.cell 0 1 rfl rfl
        have e1_0 : w5.cell? ⟨w.heap.size + 1, 0, none⟩ = some (.int .i64 n.id) := HBX5.out.cell 1 0 rfl rfl
        have e1_1 : w5.cell? ⟨w.heap.size + 1, 1, none⟩ = some (.int .i64 n.src) := HBX5.out.cell 1 1 rfl rfl
        have e1_2 : w5.cell? ⟨w.heap.size + 1, 2, none⟩ = some (.int .i64 n.dst) := HBX5.out.cell 1 2 rfl rfl
        have e1_3 : w5.cell? ⟨w.heap.size + 1, 3, none⟩ = some (.string n.ty) := HBX5.out.cell 1 3 rfl rfl
        have e1_4 : w5.cell? ⟨w.heap.size + 1, 4, none⟩ = some (.slice ka' n.keys.length kc') := HBX5.out.cell 1 4 rfl rfl
        have e1_5 : w5.cell? ⟨w.heap.size + 1, 5, none⟩ = some (.slice va' n.vals.length vc') := HBX5.out.cell 1 5 rfl rfl
        go_wp2_with (at_builtin; refine wpList_append_lies _ rfl _ _ 23 rfl (w1c.heap.size) 40 iE _ 6 88 Try.underlying23 siE szE s1E s2E rfl (by omega) (.slice ea' g.edges.length ec') g.edges.length c2 rfl (HRC.out.own.alloc _) ⟨w5.heap.size, 0, none⟩ 1 1 [.int .i64 n.id, .int .i64 n.src, .int .i64 n.dst, .string n.ty, .slice ka' n.keys.length kc', .slice va' n.vals.length vc'] rfl rfl (World.news_of_block (cs := #[.int .i64 n.id, .int .i64 n.src, .int .i64 n.dst, .string n.ty, .slice ka' n.keys.length kc', .slice va' n.vals.length vc']) (t := 40) (fr := (0, 0)) (Block.new w5 [.int .i64 n.id, .int .i64 n.src, .int .i64 n.dst, .string n.ty, .slice ka' n.keys.length kc', .slice va' n.vals.length vc'] 40)) (by simp [Value.oneCell']) (by omega) (by unfold maxLen; omega) (by omega) (by have := HLT.out; simp; omega) (w5.heap.size + 1) (by simp) ?_)
        intro gb cap w7 hown hgrow hat7 hlt7
        have hgn : ∀ q, q ∈ b2 ∨ q ∈ bs3 → q ≠ gb := fun q hq e => by
          have h1 := HPP.out q hq
          rcases hat7 with h | h
          · exact h1.2.2.2 (by rw [e]; exact h)
          · omega
        have hgw : gb ≠ w2.heap.size := by
          rcases hat7 with h | h
          · have h1 := (HRE.out.own.lt gb h).2; omega
          · have := HLT.out; omega
        have hgo : ∀ q, q ∈ b1 ∨ (Value.slice na' g.nodes.length nc').ownBlock = some q → q ≠ gb := fun q hq e => by
          have h3 : q < w2.heap.size := by rcases hq with hq | hq; exact (HRN.out.lt q hq).2; exact (HRN.out.own.lt q hq).2
          rcases hat7 with h | h
          · have h1 := HMM.out q hq
            have h2 : M ≤ gb := (HRE.out.own.lt gb h).1
            omega
          · have := HLT.out; omega
        have hgb1 : w1c.heap.size ≤ gb := by
          rcases hat7 with h | h
          · exact Nat.le_trans HWM.out (HRE.out.own.lt gb h).1
          · have := HLT.out; omega
        have hkk : ∀ q, q < w5.heap.size → (Value.slice ea' g.edges.length ec').ownBlock ≠ some q → w7.heap[q]? = w5.heap[q]? := fun q h1 h2 => by
          rw [hgrow.block q (by simp; omega) (fun e => h2 e.symm)]
          exact Below.heap_alloc _ _ _ h1
        have hro7 : ∀ q, (Value.slice ea' g.edges.length ec').ownBlock = some q → M ≤ q ∧ q < w2.heap.size := HRE.out.own.lt
        have hz7 : w5.heap.size + 1 ≤ w7.heap.size := by have := hgrow.size; simpa using this
        have hflat := ((HRC.out.flat ownIsEO (fun _ => IsEO.one) (by decide)).mono (fun cs x h => h.imp (P' := fun q => q ∈ b2 ∨ q ∈ bs3) (fun q hq => .inl hq))).grow ownIsEO (show Keeps IsEO (fun q => q ∈ b2 ∨ q ∈ bs3) w5 [.int .i64 n.id, .int .i64 n.src, .int .i64 n.dst, .string n.ty, .slice ka' n.keys.length kc', .slice va' n.vals.length vc'] n from ⟨bs3, HXN.out, fun q hq => .inr hq⟩) (IsEO.one _ _ _ HXN.out) hgrow (fun q hq => ⟨(HPP.out q hq).2.1, (HPP.out q hq).2.2.2⟩)
        have hb57 : Below (w1c.heap.size) w5 w7 := ((Below.refl _ _).alloc (by have := HLT.out; omega) _).grown hgrow (by have := HLT.out; simp; omega) (fun q e => Nat.le_trans HWM.out (hro7 q e).1)
        have HBX7 : Hid (Bx w [([.slice na g.nodes.length nc, .slice ea g.edges.length ec], 25), ([.int .i64 n.id, .int .i64 n.src, .int .i64 n.dst, .string n.ty, .slice ka' n.keys.length kc', .slice va' n.vals.length vc'], 40), ([.slice none 0 0, .slice none 0 0], 25)] w7) := Lib.hid ⟨HBX5.out.bel.trans (hb57.mono (by have := HLT.out; omega)), by have := HBX5.out.len; have := hb57.size; omega, fun i c t hi => (HBX5.out.blk i c t hi).of_heap (hb57.block _ (by have := (List.getElem?_eq_some_iff.1 hi).1; simp at this; have := HLT.out; omega))⟩
        have HBO7 : Hid (Block w7 w2.heap.size [.slice na' g.nodes.length nc', .slice ea' g.edges.length ec'] 25) := Lib.hid (HBO5.out.of_heap (hkk _ (by have := HLT.out; omega) (fun e => by have := (hro7 _ e).2; omega)))
        have HRO7 := Lib.hid (HRO.out.keep ownIsNO (w' := w7) (fun q hq => hkk q (by rcases hq with hq | hq; exact (HRO.out.lt q hq).2; exact (HRO.out.own.lt q hq).2) (fun e => by have h1 := HMM.out q hq; have h2 := (hro7 q e).1; omega)) (by omega))
        obtain ⟨w8, hw8⟩ : ∃ w8, w7.setCell ⟨w2.heap.size, 1, none⟩ (.slice (some ⟨gb, 0, none⟩) (g.edges.length + 1) cap) = w8 := ⟨_, rfl⟩
        have hk8 : ∀ q, q ≠ w2.heap.size → w8.heap[q]? = w7.heap[q]? := fun q hq => by rw [← hw8]; exact Below.heap_setCell _ _ _ _ hq
        have hz8 : w8.heap.size = w7.heap.size := by rw [← hw8]; simp [World.setCell]
        have HBX8 : Hid (Bx w [([.slice na g.nodes.length nc, .slice ea g.edges.length ec], 25), ([.int .i64 n.id, .int .i64 n.src, .int .i64 n.dst, .string n.ty, .slice ka' n.keys.length kc', .slice va' n.vals.length vc'], 40), ([.slice none 0 0, .slice none 0 0], 25)] w8) := Lib.hid (by rw [← hw8]; exact HBX7.out.far (by have := HLT.out; simp; omega) _ _)
        have HBO8 : Hid (Block w8 w2.heap.size [.slice na' g.nodes.length nc', .slice (some ⟨gb, 0, none⟩) (g.edges.length + 1) cap] 25) := Lib.hid (by rw [← hw8]; exact HBO7.out.set 1 _)
        have HRO8 := Lib.hid (HRO7.out.keep ownIsNO (w' := w8) (fun q hq => hk8 q (fun e => by have h3 : q < w2.heap.size := (by rcases hq with hq | hq; exact (HRN.out.lt q hq).2; exact (HRN.out.own.lt q hq).2); omega)) (by omega))
        have HS8 : Hid (InsSt IsEO (fun q => q ∈ b2 ∨ q ∈ bs3) 40 6 (w1c.heap.size) w [([.slice na g.nodes.length nc, .slice ea g.edges.length ec], 25), ([.int .i64 n.id, .int .i64 n.src, .int .i64 n.dst, .string n.ty, .slice ka' n.keys.length kc', .slice va' n.vals.length vc'], 40), ([.slice none 0 0, .slice none 0 0], 25)] gb cap (g.edges.length + 1) w8 (g.edges.take g.edges.length ++ n :: g.edges.drop g.edges.length) (c2 ++ [.int .i64 n.id, .int .i64 n.src, .int .i64 n.dst, .string n.ty, .slice ka' n.keys.length kc', .slice va' n.vals.length vc']) w8) := Lib.hid ⟨HBX8.out, by simp, own_of_heap hown (fun q e => hk8 q (by injection e with e; subst e; exact hgw)), by
          rw [List.take_length, List.drop_length]
          exact hflat.mono (fun cs x h => h.same ownIsEO (fun q hq => hk8 q (HPP.out q hq).2.2.1)), fun _ _ => rfl, rfl⟩
        have HOK : Hid (∀ q, q ∈ b1 ∨ (Value.slice na' g.nodes.length nc').ownBlock = some q → q ≠ gb ∧ w.heap.size + 2 + 1 ≤ q) := Lib.hid (fun q hq => ⟨hgo q hq, by have h9 : w1c.heap.size ≤ q := (by rcases hq with hq | hq; exact (HRN.out.lt q hq).1; exact (HRN.out.own.lt q hq).1); have := HLT.out; omega⟩)
        have HGB : Hid (w.heap.size + 2 + 1 ≤ gb) := Lib.hid (by have := HLT.out; omega)
        have HG1 := Lib.hid hgb1
        have HGN := Lib.hid hgn
        have HGW := Lib.hid hgw
        have HZ78 : Hid (w5.heap.size < w8.heap.size) := Lib.hid (by omega)
        have x0 : w7.cell? ⟨w2.heap.size, 1, none⟩ = some (.slice ea' g.edges.length ec') := HBO7.out.cell rfl
        have x1 : w7.frozen? ⟨w2.heap.size, 1, none⟩ = false := HBO7.out.free 1
        have y8 : w8.cell? ⟨w2.heap.size, 1, none⟩ = some (.slice (some ⟨gb, 0, none⟩) (g.edges.length + 1) cap) := HBO8.out.cell rfl
        rw [← hw8] at y8
        have HW8 := Lib.hid hw8
        have HK8 : Hid (∀ q, q < w5.heap.size → q ≠ w2.heap.size → (Value.slice ea' g.edges.length ec').ownBlock ≠ some q → w8.heap[q]? = w5.heap[q]?) := Lib.hid (fun q h1 h2 h3 => by rw [hk8 q h2, hkk q h1 h3])
        clear hown hgrow hat7 hlt7 hgn hgw hgo hgb1 hkk hro7 hz7 hflat hb57 hw8 hk8 hz8 bo0 bo1 bof
        clear e0_0 e0_1 e1_0 e1_1 e1_2 e1_3 e1_4 e1_5
        have hwn : IntKind.i64.wrap (((g.edges.length + 1 : Nat) : Int) - 1) = (g.edges.length : Int) := by rw [IntWalk.i64_in _ (by omega)]; omega
        have hwn2 : IntKind.i64.wrap ((g.edges.length : Int) + 1 - 1) = (g.edges.length : Int) := by rw [IntWalk.i64_in _ (by omega)]; omega
        go_wp2_with fail
        rw [HW8.out]
        clear x0 x1 y8
        go_loopw [9] (fun iv wr => ∃ (j : Nat) (cl : List Value), iv = .int .i64 j ∧ j ≤ g.edges.length ∧ Hid (InsSt IsEO (fun q => q ∈ b2 ∨ q ∈ bs3) 40 6 (w1c.heap.size) w [([.slice na g.nodes.length nc, .slice ea g.edges.length ec], 25), ([.int .i64 n.id, .int .i64 n.src, .int .i64 n.dst, .string n.ty, .slice ka' n.keys.length kc', .slice va' n.vals.length vc'], 40), ([.slice none 0 0, .slice none 0 0], 25)] gb cap (g.edges.length + 1) w8 (g.edges.take j ++ n :: g.edges.drop j) cl wr) ∧ Hid (∀ (i : Nat) x, j ≤ i → (idsE g)[i]? = some x → n.id < x)) (fun iv _ => (intOf iv).toNat)
        case atStart => exact ⟨g.edges.length, _, by go_num, Nat.le_refl _, HS8, Lib.hid (fun i x hi hx => by have h1 := (List.getElem?_eq_some_iff.1 hx).1; have h2 := HIL.out; omega)⟩
        case round =>
          obtain ⟨j, cl, rfl, hj, HST, HGE⟩ := hrel
          have HSD := Lib.hid (HST.out.drew ownIsEO)
          by_cases hj0 : j = 0
          · have hj0' : ¬ (0 : Int) < (j : Int) := by omega
            have hj0n : ¬ 0 < j := by omega
            have HJ0 := Lib.hid hj0
            go_wp2_with fail
            refine wp_region_noPanic ?_
            refine wp_region_J (S := fun _ : World => True) (fun _ => false) (by kernel_rfl) ?_
            obtain ⟨wd, hwd⟩ : ∃ u, wr.drew = u := ⟨_, rfl⟩
            rw [hwd] at HSD ⊢
            clear hwd
            have hHeld : (fun _ : World => True) wd := trivial
            refine wpAnyJ_take0 (i := 0) (v := ?_) rfl (by kernel_rfl) (by kernel_rfl) (by kernel_rfl) (fun _ _ _ h => h) (Or.inl ⟨by rfl, ?_⟩) ?_
            rotate_left
            focus ((intro w hSw; clear hSw; go_simp); try with_reducible rfl)
            (try simp only [Act.put, List.getElem_toArray, List.getElem_cons_zero, List.getElem_cons_succ, List.setIfInBounds_toArray, List.set_cons_zero, List.set_cons_succ])
            refine wpAnyJ_take0 (i := 1) (v := ?_) rfl (by kernel_rfl) (by kernel_rfl) (by kernel_rfl) (fun _ _ _ h => h) (Or.inl ⟨by rfl, ?_⟩) ?_
            rotate_left
            focus ((intro w hSw; clear hSw; go_simp); try with_reducible rfl)
            (try simp only [Act.put, List.getElem_toArray, List.getElem_cons_zero, List.getElem_cons_succ, List.setIfInBounds_toArray, List.set_cons_zero, List.set_cons_succ])
            refine wpAnyJ_take0 (i := 2) (v := ?_) rfl (by kernel_rfl) (by kernel_rfl) (by kernel_rfl) (fun _ _ _ h => h) (Or.inl ⟨by rfl, ?_⟩) ?_
            rotate_left
            focus ((intro w hSw; clear hSw; go_simp); try with_reducible rfl)
            (try simp only [Act.put, List.getElem_toArray, List.getElem_cons_zero, List.getElem_cons_succ, List.setIfInBounds_toArray, List.set_cons_zero, List.set_cons_succ])
            refine wpAnyJ_take0 (i := 3) (v := undef) rfl (by kernel_rfl) (by kernel_rfl) (by kernel_rfl) (fun _ _ _ h => h) (Or.inr ⟨by rfl, rfl⟩) ?_
            (try simp only [Act.put, List.getElem_toArray, List.getElem_cons_zero, List.getElem_cons_succ, List.setIfInBounds_toArray, List.set_cons_zero, List.set_cons_succ])
            refine wpAnyJ_take0 (i := 4) (v := undef) rfl (by kernel_rfl) (by kernel_rfl) (by kernel_rfl) (fun _ _ _ h => h) (Or.inr ⟨by rfl, rfl⟩) ?_
            (try simp only [Act.put, List.getElem_toArray, List.getElem_cons_zero, List.getElem_cons_succ, List.setIfInBounds_toArray, List.set_cons_zero, List.set_cons_succ])
            refine wpAnyJ_take0 (i := 5) (v := undef) rfl (by kernel_rfl) (by kernel_rfl) (by kernel_rfl) (fun _ _ _ h => h) (Or.inr ⟨by rfl, rfl⟩) ?_
            (try simp only [Act.put, List.getElem_toArray, List.getElem_cons_zero, List.getElem_cons_succ, List.setIfInBounds_toArray, List.set_cons_zero, List.set_cons_succ])
            refine wpAnyJ_take0 (i := 6) (v := undef) rfl (by kernel_rfl) (by kernel_rfl) (by kernel_rfl) (fun _ _ _ h => h) (Or.inr ⟨by rfl, rfl⟩) ?_
            (try simp only [Act.put, List.getElem_toArray, List.getElem_cons_zero, List.getElem_cons_succ, List.setIfInBounds_toArray, List.set_cons_zero, List.set_cons_succ])
            refine wpAnyJ_take0 (i := 7) (v := undef) rfl (by kernel_rfl) (by kernel_rfl) (by kernel_rfl) (fun _ _ _ h => h) (Or.inr ⟨by rfl, rfl⟩) ?_
            (try simp only [Act.put, List.getElem_toArray, List.getElem_cons_zero, List.getElem_cons_succ, List.setIfInBounds_toArray, List.set_cons_zero, List.set_cons_succ])
            refine wpAnyJ_take0 (i := 8) (v := undef) rfl (by kernel_rfl) (by kernel_rfl) (by kernel_rfl) (fun _ _ _ h => h) (Or.inr ⟨by rfl, rfl⟩) ?_
            (try simp only [Act.put, List.getElem_toArray, List.getElem_cons_zero, List.getElem_cons_succ, List.setIfInBounds_toArray, List.set_cons_zero, List.set_cons_succ])
            refine wpAnyJ_take0 (i := 9) (v := undef) rfl (by kernel_rfl) (by kernel_rfl) (by kernel_rfl) (fun _ _ _ h => h) (Or.inr ⟨by rfl, rfl⟩) ?_
            (try simp only [Act.put, List.getElem_toArray, List.getElem_cons_zero, List.getElem_cons_succ, List.setIfInBounds_toArray, List.set_cons_zero, List.set_cons_succ])
            refine wpAnyJ_take0 (i := 10) (v := undef) rfl (by kernel_rfl) (by kernel_rfl) (by kernel_rfl) (fun _ _ _ h => h) (Or.inr ⟨by rfl, rfl⟩) ?_
            (try simp only [Act.put, List.getElem_toArray, List.getElem_cons_zero, List.getElem_cons_succ, List.setIfInBounds_toArray, List.set_cons_zero, List.set_cons_succ])
            refine wpAnyJ_take0 (i := 11) (v := undef) rfl (by kernel_rfl) (by kernel_rfl) (by kernel_rfl) (fun _ _ _ h => h) (Or.inr ⟨by rfl, rfl⟩) ?_
            (try simp only [Act.put, List.getElem_toArray, List.getElem_cons_zero, List.getElem_cons_succ, List.setIfInBounds_toArray, List.set_cons_zero, List.set_cons_succ])
            refine wpAnyJ_take0 (i := 12) (v := undef) rfl (by kernel_rfl) (by kernel_rfl) (by kernel_rfl) (fun _ _ _ h => h) (Or.inr ⟨by rfl, rfl⟩) ?_
            (try simp only [Act.put, List.getElem_toArray, List.getElem_cons_zero, List.getElem_cons_succ, List.setIfInBounds_toArray, List.set_cons_zero, List.set_cons_succ])
            refine wpAnyJ_take0 (i := 13) (v := ?_) rfl (by kernel_rfl) (by kernel_rfl) (by kernel_rfl) (fun _ _ _ h => h) (Or.inl ⟨by rfl, ?_⟩) ?_
            rotate_left
            focus ((intro w hSw; clear hSw; go_simp); try with_reducible rfl)
            (try simp only [Act.put, List.getElem_toArray, List.getElem_cons_zero, List.getElem_cons_succ, List.setIfInBounds_toArray, List.set_cons_zero, List.set_cons_succ])
            refine wpAnyJ_done (by kernel_rfl) ?_ _
            refine NoPanic.normal ?_
            clear hHeld
            have HPO : Hid (posI (idsE g) n.id = j) := Lib.hid (posI_of HRI.out HII.out (by rw [HIL.out]; exact hj) HGE.out (fun x h => absurd HJ0.out h))
            have HP2 : Hid (joinG g n = (0, ⟨g.nodes, g.edges.take j ++ n :: g.edges.drop j⟩)) := Lib.hid (by rw [HP.out, HPO.out]; rfl)
            have HPK : Hid (∀ q, (q ∈ b2 ∨ q ∈ bs3) → w.heap.size + 2 + 1 ≤ q ∧ q < wd.heap.size) := Lib.hid (fun q hq => by have h9 := HPP.out q hq; have := HLT.out; have := HWM.out; have h8 := HSD.out.sz; have := HZ78.out; exact ⟨by omega, by omega⟩)
            have HBX9 : Hid (Bx w [([.slice na g.nodes.length nc, .slice ea g.edges.length ec], 25), ([.int .i64 n.id, .int .i64 n.src, .int .i64 n.dst, .string n.ty, .slice ka' n.keys.length kc', .slice va' n.vals.length vc'], 40), ([.slice none 0 0, .slice none 0 0], 25)] wd) := Lib.hid HSD.out.bx
            have hbo : Block wd w2.heap.size [.slice na' g.nodes.length nc', .slice (some ⟨gb, 0, none⟩) (g.edges.length + 1) cap] 25 := HBO8.out.of_heap (HSD.out.kp _ (fun e => HGW.out e.symm))
            have v0 : wd.cell? ⟨w2.heap.size, 0, none⟩ = some (.slice na' g.nodes.length nc') := hbo.cell rfl
            have v1 : wd.cell? ⟨w2.heap.size, 1, none⟩ = some (.slice (some ⟨gb, 0, none⟩) (g.edges.length + 1) cap) := hbo.cell rfl
            have HT2 : Hid (wd.there (w.heap.size + 2) 0 2) := Lib.hid (show Block wd (w.heap.size + 2) [.slice none 0 0, .slice none 0 0] 25 from HBX9.out.blk 2 _ _ rfl).there
            obtain ⟨we, hwe⟩ : ∃ we, wd.setCells (w.heap.size + 2) 0 (#[.slice na' g.nodes.length nc', .slice (some ⟨gb, 0, none⟩) (g.edges.length + 1) cap] : Array Value).toList = we := ⟨_, rfl⟩
            have hbe : Block we (w.heap.size + 2) [.slice na' g.nodes.length nc', .slice (some ⟨gb, 0, none⟩) (g.edges.length + 1) cap] 25 := by rw [← hwe]; exact ((show Block wd (w.heap.size + 2) [.slice none 0 0, .slice none 0 0] 25 from HBX9.out.blk 2 _ _ rfl).set 0 _).set 1 _
            have q0 : we.cell? ⟨w.heap.size + 2, 0, none⟩ = some (.slice na' g.nodes.length nc') := hbe.cell rfl
            have q1 : we.cell? ⟨w.heap.size + 2, 1, none⟩ = some (.slice (some ⟨gb, 0, none⟩) (g.edges.length + 1) cap) := hbe.cell rfl
            have HBE : Hid (Below w.heap.size w we) := Lib.hid (by rw [← hwe]; exact ((HBX9.out.put 2 0 rfl (.slice na' g.nodes.length nc')).put 2 1 rfl (.slice (some ⟨gb, 0, none⟩) (g.edges.length + 1) cap)).bel)
            have HKE : Hid (∀ q, q ≠ w.heap.size + 2 → we.heap[q]? = wd.heap[q]?) := Lib.hid (fun q hq => by rw [← hwe]; exact setW_other _ _ _ _ _ hq)
            have HZE : Hid (we.heap.size = wd.heap.size) := Lib.hid (by rw [← hwe]; exact setW_size _ _ _ _)
            have HWE := Lib.hid hwe
            clear hbo hbe hwe
            go_wp2_with (first | (refine wpList_store_mid rfl 25 _ _ rfl (w.heap.size + 2) 0 #[.slice na' g.nodes.length nc', .slice (some ⟨gb, 0, none⟩) (g.edges.length + 1) cap] rfl rfl HT2.out (by kernel_rfl) (by simp [Value.oneCell']) ?_; rw [HWE.out]))
            refine bodyPost_ret (by simp [results, Try.results43, go_sem, q0, q1]; rfl) rfl ?_
            rw [HP2.out]
            refine ⟨_, rfl, HBE.out, ?_⟩
            exact (ins_edge (b := w.heap.size + 2) HSD.out HRO8.out HOK.out HPK.out HGB.out HKE.out HZE.out).mono (by omega)
          · skip
            obtain ⟨m, hm⟩ : ∃ m, j = m + 1 := ⟨j - 1, by omega⟩
            subst hm
            clear hj0
            have hml : m < g.edges.length := by omega
            have hj0' : (0 : Int) < ((m + 1 : Nat) : Int) := by omega
            have hj0n : 0 < m + 1 := by omega
            have hj0c : (0 : Int) < (m : Int) + 1 := by omega
            have hwj : IntKind.i64.wrap (((m + 1 : Nat) : Int) - 1) = (m : Int) := by rw [IntWalk.i64_in _ (by omega)]; omega
            have hwj2 : IntKind.i64.wrap ((m : Int) + 1 - 1) = (m : Int) := by rw [IntWalk.i64_in _ (by omega)]; omega
            have hm1 : (m : Int) < ((g.edges.length + 1 : Nat) : Int) := by omega
            have hm0 : (0 : Int) ≤ (m : Int) := by omega
            have hm2 : (m : Int) < (g.edges.length : Int) + 1 := by omega
            have hm3 : (m : Int) + 1 < (g.edges.length : Int) + 1 := by omega
            have hm4 : m + 1 < g.edges.length + 1 := by omega
            have hm5 : m < g.edges.length + 1 := by omega
            have hm6 : (0 : Int) ≤ (m : Int) + 1 := by omega
            have hwm0 : IntKind.i64.wrap (m : Int) = (m : Int) := IntWalk.i64_in _ (by omega)
            obtain ⟨y, hy⟩ := get_some hml
            have hyl : (g.edges.take (m + 1) ++ n :: g.edges.drop (m + 1))[m]? = some y := by rw [List.getElem?_append_left (by rw [List.length_take]; omega), List.getElem?_take_of_lt (by omega)]; exact hy
            obtain ⟨yc, yl, ⟨by_, hyo, hyP⟩, yg⟩ := HST.out.flat.cell hyl
            have HYK := Lib.hid (show Keeps IsEO (fun q => q ∈ b2 ∨ q ∈ bs3) wr yc y from ⟨by_, hyo, hyP⟩)
            have hyo2 := hyo
            obtain ⟨yka, ykc, yva, yvc, q1, q2, rfl, -⟩ := hyo2
            have HYG := Lib.hid yg
            have HY := Lib.hid hy
            clear yl hyo hyP yg hy hyl
            by_cases hgt : n.id < y.id
            · skip
              have hgt2 : ¬ y.id ≤ n.id := by omega
              go_wp2_with fail
              refine wp_region_noPanic ?_
              refine wp_region_J (S := fun u : World => u.cell? ⟨w2.heap.size, 1, none⟩ = some (.slice (some ⟨gb, 0, none⟩) (g.edges.length + 1) cap) ∧ u.cell? ⟨w.heap.size + 1, 0, none⟩ = some (.int .i64 n.id) ∧ u.cell? ⟨gb, m * 6, none⟩ = some (.int .i64 y.id) ∧ u.cell? ⟨gb, m * 6 + 1, none⟩ = some (.int .i64 y.src) ∧ u.cell? ⟨gb, m * 6 + 2, none⟩ = some (.int .i64 y.dst) ∧ u.cell? ⟨gb, m * 6 + 3, none⟩ = some (.string y.ty) ∧ u.cell? ⟨gb, m * 6 + 4, none⟩ = some (.slice yka y.keys.length ykc) ∧ u.cell? ⟨gb, m * 6 + 5, none⟩ = some (.slice yva y.vals.length yvc)) (fun _ => false) (by kernel_rfl) ?_
              obtain ⟨wd, hwd⟩ : ∃ u, wr.drew = u := ⟨_, rfl⟩
              rw [hwd] at HSD ⊢
              have HYK := Lib.hid (show Keeps IsEO (fun q => q ∈ b2 ∨ q ∈ bs3) wd [.int .i64 y.id, .int .i64 y.src, .int .i64 y.dst, .string y.ty, .slice yka y.keys.length ykc, .slice yva y.vals.length yvc] y from HYK.out.same ownIsEO (fun q hq => by rw [← hwd]; rfl))
              clear hwd
              have hHeld : (fun u : World => u.cell? ⟨w2.heap.size, 1, none⟩ = some (.slice (some ⟨gb, 0, none⟩) (g.edges.length + 1) cap) ∧ u.cell? ⟨w.heap.size + 1, 0, none⟩ = some (.int .i64 n.id) ∧ u.cell? ⟨gb, m * 6, none⟩ = some (.int .i64 y.id) ∧ u.cell? ⟨gb, m * 6 + 1, none⟩ = some (.int .i64 y.src) ∧ u.cell? ⟨gb, m * 6 + 2, none⟩ = some (.int .i64 y.dst) ∧ u.cell? ⟨gb, m * 6 + 3, none⟩ = some (.string y.ty) ∧ u.cell? ⟨gb, m * 6 + 4, none⟩ = some (.slice yka y.keys.length ykc) ∧ u.cell? ⟨gb, m * 6 + 5, none⟩ = some (.slice yva y.vals.length yvc)) wd := ⟨(HBO8.out.of_heap (HSD.out.kp _ (fun e => HGW.out e.symm))).cell rfl, HSD.out.bx.cell 1 0 rfl rfl, own_cell HSD.out.own (HYG.out 0 _ rfl), own_cell HSD.out.own (HYG.out 1 _ rfl), own_cell HSD.out.own (HYG.out 2 _ rfl), own_cell HSD.out.own (HYG.out 3 _ rfl), own_cell HSD.out.own (HYG.out 4 _ rfl), own_cell HSD.out.own (HYG.out 5 _ rfl)⟩
              refine wpAnyJ_take0 (i := 0) (v := ?_) rfl (by kernel_rfl) (by kernel_rfl) (by kernel_rfl) (fun _ _ _ h => h) (Or.inl ⟨by rfl, ?_⟩) ?_
              rotate_left
              focus ((intro w hSw; clear hSw; go_simp); try with_reducible rfl)
              (try simp only [Act.put, List.getElem_toArray, List.getElem_cons_zero, List.getElem_cons_succ, List.setIfInBounds_toArray, List.set_cons_zero, List.set_cons_succ])
              refine wpAnyJ_take0 (i := 1) (v := ?_) rfl (by kernel_rfl) (by kernel_rfl) (by kernel_rfl) (fun _ _ _ h => h) (Or.inl ⟨by rfl, ?_⟩) ?_
              rotate_left
              focus ((intro w hSw; clear hSw; go_simp); try with_reducible rfl)
              (try simp only [Act.put, List.getElem_toArray, List.getElem_cons_zero, List.getElem_cons_succ, List.setIfInBounds_toArray, List.set_cons_zero, List.set_cons_succ])
              refine wpAnyJ_take0 (i := 2) (v := ?_) rfl (by kernel_rfl) (by kernel_rfl) (by kernel_rfl) (fun _ _ _ h => h) (Or.inl ⟨by rfl, ?_⟩) ?_
              rotate_left
              focus ((intro w hSw; clear hSw; go_simp); try with_reducible rfl)
              (try simp only [Act.put, List.getElem_toArray, List.getElem_cons_zero, List.getElem_cons_succ, List.setIfInBounds_toArray, List.set_cons_zero, List.set_cons_succ])
              refine wpAnyJ_take0 (i := 3) (v := ?_) rfl (by kernel_rfl) (by kernel_rfl) (by kernel_rfl) (fun _ _ _ h => h) (Or.inl ⟨by rfl, ?_⟩) ?_
              rotate_left
              focus ((intro w hSw; clear hSw; go_simp); try with_reducible rfl)
              (try simp only [Act.put, List.getElem_toArray, List.getElem_cons_zero, List.getElem_cons_succ, List.setIfInBounds_toArray, List.set_cons_zero, List.set_cons_succ])
              refine wpAnyJ_take (i := 4) (v := ?_) rfl (by kernel_rfl) (by kernel_rfl) (by kernel_rfl) (by kernel_rfl) (fun _ _ _ h => h) (Or.inl ⟨by rfl, ?_⟩) (by assumption) ?_
              rotate_left
              focus ((intro w hSw; (try dsimp only at hSw); go_simp); try with_reducible rfl)
              (try simp only [Act.put, List.getElem_toArray, List.getElem_cons_zero, List.getElem_cons_succ, List.setIfInBounds_toArray, List.set_cons_zero, List.set_cons_succ])
              refine wpAnyJ_take0 (i := 5) (v := ?_) rfl (by kernel_rfl) (by kernel_rfl) (by kernel_rfl) (fun _ _ _ h => h) (Or.inl ⟨by rfl, ?_⟩) ?_
              rotate_left
              focus ((intro w hSw; clear hSw; go_simp); try with_reducible rfl)
              (try simp only [Act.put, List.getElem_toArray, List.getElem_cons_zero, List.getElem_cons_succ, List.setIfInBounds_toArray, List.set_cons_zero, List.set_cons_succ])
              refine wpAnyJ_take0 (i := 6) (v := ?_) rfl (by kernel_rfl) (by kernel_rfl) (by kernel_rfl) (fun _ _ _ h => h) (Or.inl ⟨by rfl, ?_⟩) ?_
              rotate_left
              focus ((intro w hSw; clear hSw; go_simp); try with_reducible rfl)
              (try simp only [Act.put, List.getElem_toArray, List.getElem_cons_zero, List.getElem_cons_succ, List.setIfInBounds_toArray, List.set_cons_zero, List.set_cons_succ])
              refine wpAnyJ_take0 (i := 7) (v := ?_) rfl (by kernel_rfl) (by kernel_rfl) (by kernel_rfl) (fun _ _ _ h => h) (Or.inl ⟨by rfl, ?_⟩) ?_
              rotate_left
              focus ((intro w hSw; clear hSw; go_simp); try with_reducible rfl)
              (try simp only [Act.put, List.getElem_toArray, List.getElem_cons_zero, List.getElem_cons_succ, List.setIfInBounds_toArray, List.set_cons_zero, List.set_cons_succ])
              refine wpAnyJ_take0 (i := 8) (v := ?_) rfl (by kernel_rfl) (by kernel_rfl) (by kernel_rfl) (fun _ _ _ h => h) (Or.inl ⟨by rfl, ?_⟩) ?_
              rotate_left
              focus ((intro w hSw; clear hSw; go_simp); try with_reducible rfl)
              (try simp only [Act.put, List.getElem_toArray, List.getElem_cons_zero, List.getElem_cons_succ, List.setIfInBounds_toArray, List.set_cons_zero, List.set_cons_succ])
              refine wpAnyJ_take (i := 9) (v := ?_) rfl (by kernel_rfl) (by kernel_rfl) (by kernel_rfl) (by kernel_rfl) (fun _ _ _ h => h) (Or.inl ⟨by rfl, ?_⟩) (by assumption) ?_
              rotate_left
              focus ((intro w hSw; (try dsimp only at hSw); go_simp); try with_reducible rfl)
              (try simp only [Act.put, List.getElem_toArray, List.getElem_cons_zero, List.getElem_cons_succ, List.setIfInBounds_toArray, List.set_cons_zero, List.set_cons_succ])
              refine wpAnyJ_take0 (i := 10) (v := ?_) rfl (by kernel_rfl) (by kernel_rfl) (by kernel_rfl) (fun _ _ _ h => h) (Or.inl ⟨by rfl, ?_⟩) ?_
              rotate_left
              focus ((intro w hSw; clear hSw; go_simp); try with_reducible rfl)
              (try simp only [Act.put, List.getElem_toArray, List.getElem_cons_zero, List.getElem_cons_succ, List.setIfInBounds_toArray, List.set_cons_zero, List.set_cons_succ])
              refine wpAnyJ_take (i := 11) (v := ?_) rfl (by kernel_rfl) (by kernel_rfl) (by kernel_rfl) (by kernel_rfl) (fun _ _ _ h => h) (Or.inl ⟨by rfl, ?_⟩) (by assumption) ?_
              rotate_left
              focus ((intro w hSw; (try dsimp only at hSw); go_simp); try with_reducible rfl)
              (try simp only [Act.put, List.getElem_toArray, List.getElem_cons_zero, List.getElem_cons_succ, List.setIfInBounds_toArray, List.set_cons_zero, List.set_cons_succ])
              refine wpAnyJ_take0 (i := 12) (v := ?_) rfl (by kernel_rfl) (by kernel_rfl) (by kernel_rfl) (fun _ _ _ h => h) (Or.inl ⟨by rfl, ?_⟩) ?_
              rotate_left
              focus ((intro w hSw; clear hSw; go_simp); try with_reducible rfl)
              (try simp only [Act.put, List.getElem_toArray, List.getElem_cons_zero, List.getElem_cons_succ, List.setIfInBounds_toArray, List.set_cons_zero, List.set_cons_succ])
              refine wpAnyJ_take0 (i := 13) (v := ?_) rfl (by kernel_rfl) (by kernel_rfl) (by kernel_rfl) (fun _ _ _ h => h) (Or.inl ⟨by rfl, ?_⟩) ?_
              rotate_left
              focus ((intro w hSw; clear hSw; go_simp); try with_reducible rfl)
              (try simp only [Act.put, List.getElem_toArray, List.getElem_cons_zero, List.getElem_cons_succ, List.setIfInBounds_toArray, List.set_cons_zero, List.set_cons_succ])
              refine wpAnyJ_done (by kernel_rfl) ?_ _
              refine NoPanic.normal ?_
              clear hHeld
              go_wp2_with fail
              refine wp_region_noPanic ?_
              refine wp_region_J (S := fun u : World => u.cell? ⟨w2.heap.size, 1, none⟩ = some (.slice (some ⟨gb, 0, none⟩) (g.edges.length + 1) cap) ∧ u.cell? ⟨w.heap.size + 1, 0, none⟩ = some (.int .i64 n.id) ∧ u.cell? ⟨gb, m * 6, none⟩ = some (.int .i64 y.id) ∧ u.cell? ⟨gb, m * 6 + 1, none⟩ = some (.int .i64 y.src) ∧ u.cell? ⟨gb, m * 6 + 2, none⟩ = some (.int .i64 y.dst) ∧ u.cell? ⟨gb, m * 6 + 3, none⟩ = some (.string y.ty) ∧ u.cell? ⟨gb, m * 6 + 4, none⟩ = some (.slice yka y.keys.length ykc) ∧ u.cell? ⟨gb, m * 6 + 5, none⟩ = some (.slice yva y.vals.length yvc)) (fun j => j == 10) (by kernel_rfl) ?_
              obtain ⟨u0, hu0⟩ : ∃ u, wd.drew = u := ⟨_, rfl⟩
              have HSU := Lib.hid (HSD.out.drew ownIsEO)
              rw [hu0] at HSU ⊢
              have hHeld : (fun u : World => u.cell? ⟨w2.heap.size, 1, none⟩ = some (.slice (some ⟨gb, 0, none⟩) (g.edges.length + 1) cap) ∧ u.cell? ⟨w.heap.size + 1, 0, none⟩ = some (.int .i64 n.id) ∧ u.cell? ⟨gb, m * 6, none⟩ = some (.int .i64 y.id) ∧ u.cell? ⟨gb, m * 6 + 1, none⟩ = some (.int .i64 y.src) ∧ u.cell? ⟨gb, m * 6 + 2, none⟩ = some (.int .i64 y.dst) ∧ u.cell? ⟨gb, m * 6 + 3, none⟩ = some (.string y.ty) ∧ u.cell? ⟨gb, m * 6 + 4, none⟩ = some (.slice yka y.keys.length ykc) ∧ u.cell? ⟨gb, m * 6 + 5, none⟩ = some (.slice yva y.vals.length yvc)) u0 := ⟨(HBO8.out.of_heap (HSU.out.kp _ (fun e => HGW.out e.symm))).cell rfl, HSU.out.bx.cell 1 0 rfl rfl, own_cell HSU.out.own (HYG.out 0 _ rfl), own_cell HSU.out.own (HYG.out 1 _ rfl), own_cell HSU.out.own (HYG.out 2 _ rfl), own_cell HSU.out.own (HYG.out 3 _ rfl), own_cell HSU.out.own (HYG.out 4 _ rfl), own_cell HSU.out.own (HYG.out 5 _ rfl)⟩
              have HYU : Hid (Keeps IsEO (fun q => q ∈ b2 ∨ q ∈ bs3) u0 [.int .i64 y.id, .int .i64 y.src, .int .i64 y.dst, .string y.ty, .slice yka y.keys.length ykc, .slice yva y.vals.length yvc] y) := Lib.hid (HYK.out.same ownIsEO (fun q hq => by rw [← hu0]; rfl))
              clear hu0
              have HTU : Hid (u0.there gb ((m + 1) * 6) 6) := Lib.hid (own_thereAt HSU.out.own hm4)
              obtain ⟨u1, hu1⟩ : ∃ u, u0.setCells gb ((m + 1) * 6) (#[.int .i64 y.id, .int .i64 y.src, .int .i64 y.dst, .string y.ty, .slice yka y.keys.length ykc, .slice yva y.vals.length yvc] : Array Value).toList = u := ⟨_, rfl⟩
              have HS15 : Hid (InsSt IsEO (fun q => q ∈ b2 ∨ q ∈ bs3) 40 6 (w1c.heap.size) w [([.slice na g.nodes.length nc, .slice ea g.edges.length ec], 25), ([.int .i64 n.id, .int .i64 n.src, .int .i64 n.dst, .string n.ty, .slice ka' n.keys.length kc', .slice va' n.vals.length vc'], 40), ([.slice none 0 0, .slice none 0 0], 25)] gb cap (g.edges.length + 1) w8 ((g.edges.take (m + 1) ++ n :: g.edges.drop (m + 1)).set (m + 1) y) (setMany cl ((m + 1) * 6) [.int .i64 y.id, .int .i64 y.src, .int .i64 y.dst, .string y.ty, .slice yka y.keys.length ykc, .slice yva y.vals.length yvc]) u1) := Lib.hid (by rw [← hu1]; exact HSU.out.put ownIsEO (by have := HLT.out; have := HG1.out; simp; omega) HGN.out (by simp; omega) HYU.out (by obtain ⟨_, h9, _⟩ := HYU.out; exact IsEO.one _ _ _ h9))
              have HU1 := Lib.hid hu1
              clear hu1
              refine wpAnyJ_take0 (i := 0) (v := ?_) rfl (by kernel_rfl) (by kernel_rfl) (by kernel_rfl) (fun _ _ _ h => h) (Or.inl ⟨by rfl, ?_⟩) ?_
              rotate_left
              focus ((intro w hSw; clear hSw; go_simp); try with_reducible rfl)
              (try simp only [Act.put, List.getElem_toArray, List.getElem_cons_zero, List.getElem_cons_succ, List.setIfInBounds_toArray, List.set_cons_zero, List.set_cons_succ])
              refine wpAnyJ_take (i := 1) (v := ?_) rfl (by kernel_rfl) (by kernel_rfl) (by kernel_rfl) (by kernel_rfl) (fun _ _ _ h => h) (Or.inl ⟨by rfl, ?_⟩) (by assumption) ?_
              rotate_left
              focus ((intro w hSw; (try dsimp only at hSw); go_simp); try with_reducible rfl)
              (try simp only [Act.put, List.getElem_toArray, List.getElem_cons_zero, List.getElem_cons_succ, List.setIfInBounds_toArray, List.set_cons_zero, List.set_cons_succ])
              refine wpAnyJ_take0 (i := 2) (v := ?_) rfl (by kernel_rfl) (by kernel_rfl) (by kernel_rfl) (fun _ _ _ h => h) (Or.inl ⟨by rfl, ?_⟩) ?_
              rotate_left
              focus ((intro w hSw; clear hSw; go_simp); try with_reducible rfl)
              (try simp only [Act.put, List.getElem_toArray, List.getElem_cons_zero, List.getElem_cons_succ, List.setIfInBounds_toArray, List.set_cons_zero, List.set_cons_succ])
              refine wpAnyJ_take0 (i := 3) (v := ?_) rfl (by kernel_rfl) (by kernel_rfl) (by kernel_rfl) (fun _ _ _ h => h) (Or.inl ⟨by rfl, ?_⟩) ?_
              rotate_left
              focus ((intro w hSw; clear hSw; go_simp); try with_reducible rfl)
              (try simp only [Act.put, List.getElem_toArray, List.getElem_cons_zero, List.getElem_cons_succ, List.setIfInBounds_toArray, List.set_cons_zero, List.set_cons_succ])
              refine wpAnyJ_take (i := 4) (v := ?_) rfl (by kernel_rfl) (by kernel_rfl) (by kernel_rfl) (by kernel_rfl) (fun _ _ _ h => h) (Or.inl ⟨by rfl, ?_⟩) (by assumption) ?_
              rotate_left
              focus ((intro w hSw; (try dsimp only at hSw); go_simp); try with_reducible rfl)
              (try simp only [Act.put, List.getElem_toArray, List.getElem_cons_zero, List.getElem_cons_succ, List.setIfInBounds_toArray, List.set_cons_zero, List.set_cons_succ])
              refine wpAnyJ_take0 (i := 5) (v := ?_) rfl (by kernel_rfl) (by kernel_rfl) (by kernel_rfl) (fun _ _ _ h => h) (Or.inl ⟨by rfl, ?_⟩) ?_
              rotate_left
              focus ((intro w hSw; clear hSw; go_simp); try with_reducible rfl)
              (try simp only [Act.put, List.getElem_toArray, List.getElem_cons_zero, List.getElem_cons_succ, List.setIfInBounds_toArray, List.set_cons_zero, List.set_cons_succ])
              refine wpAnyJ_take0 (i := 6) (v := ?_) rfl (by kernel_rfl) (by kernel_rfl) (by kernel_rfl) (fun _ _ _ h => h) (Or.inl ⟨by rfl, ?_⟩) ?_
              rotate_left
              focus ((intro w hSw; clear hSw; go_simp); try with_reducible rfl)
              (try simp only [Act.put, List.getElem_toArray, List.getElem_cons_zero, List.getElem_cons_succ, List.setIfInBounds_toArray, List.set_cons_zero, List.set_cons_succ])
              refine wpAnyJ_take0 (i := 7) (v := ?_) rfl (by kernel_rfl) (by kernel_rfl) (by kernel_rfl) (fun _ _ _ h => h) (Or.inl ⟨by rfl, ?_⟩) ?_
              rotate_left
              focus ((intro w hSw; clear hSw; go_simp); try with_reducible rfl)
              (try simp only [Act.put, List.getElem_toArray, List.getElem_cons_zero, List.getElem_cons_succ, List.setIfInBounds_toArray, List.set_cons_zero, List.set_cons_succ])
              refine wpAnyJ_take (i := 8) (v := ?_) rfl (by kernel_rfl) (by kernel_rfl) (by kernel_rfl) (by kernel_rfl) (fun _ _ _ h => h) (Or.inl ⟨by rfl, ?_⟩) (by assumption) ?_
              rotate_left
              focus ((intro w hSw; (try dsimp only at hSw); go_simp); try with_reducible rfl)
              (try simp only [Act.put, List.getElem_toArray, List.getElem_cons_zero, List.getElem_cons_succ, List.setIfInBounds_toArray, List.set_cons_zero, List.set_cons_succ])
              refine wpAnyJ_take0 (i := 9) (v := ?_) rfl (by kernel_rfl) (by kernel_rfl) (by kernel_rfl) (fun _ _ _ h => h) (Or.inl ⟨by rfl, ?_⟩) ?_
              rotate_left
              focus ((intro w hSw; clear hSw; go_simp); try with_reducible rfl)
              (try simp only [Act.put, List.getElem_toArray, List.getElem_cons_zero, List.getElem_cons_succ, List.setIfInBounds_toArray, List.set_cons_zero, List.set_cons_succ])
              refine wpAnyJ_ready (rs := [10]) (by kernel_rfl) (by simp) ?_
              refine AllReadyJ.cons rfl (fun KK hKK => ?_) AllReadyJ.nil
              refine step_store_mid (by rfl) 40 _ _ (by rfl) gb ((m + 1) * 6) #[.int .i64 y.id, .int .i64 y.src, .int .i64 y.dst, .string y.ty, .slice yka y.keys.length ykc, .slice yva y.vals.length yvc] (by rfl) (by rfl) HTU.out (by kernel_rfl) (by simp [Value.oneCell']) ?_
              rw [HU1.out]
              refine hKK.out _ _ (fun h => absurd h (by decide)) ?_
              clear hKK KK hHeld
              (try simp only [Act.put, List.getElem_toArray, List.getElem_cons_zero, List.getElem_cons_succ, List.setIfInBounds_toArray, List.set_cons_zero, List.set_cons_succ])
              refine wpAnyJ_done (by kernel_rfl) ?_ _
              refine NoPanic.normal ?_
              have HX1 : Hid (Keeps IsEO (fun q => q ∈ b2 ∨ q ∈ bs3) u1 [.int .i64 n.id, .int .i64 n.src, .int .i64 n.dst, .string n.ty, .slice ka' n.keys.length kc', .slice va' n.vals.length vc'] n) := Lib.hid ⟨bs3, ownIsEO.same HXN.out (fun q hq => by
                have h9 := HPP.out q (.inr hq)
                rw [HS15.out.kp q (HGN.out q (.inr hq)), HK8.out q h9.2.1 h9.2.2.1 h9.2.2.2]), fun q hq => .inr hq⟩
              have HTV : Hid (u1.there gb (m * 6) 6) := Lib.hid (own_thereAt HS15.out.own hm5)
              obtain ⟨u2, hu2⟩ : ∃ u, u1.setCells gb (m * 6) (#[.int .i64 n.id, .int .i64 n.src, .int .i64 n.dst, .string n.ty, .slice ka' n.keys.length kc', .slice va' n.vals.length vc'] : Array Value).toList = u := ⟨_, rfl⟩
              have HS16 : Hid (InsSt IsEO (fun q => q ∈ b2 ∨ q ∈ bs3) 40 6 (w1c.heap.size) w [([.slice na g.nodes.length nc, .slice ea g.edges.length ec], 25), ([.int .i64 n.id, .int .i64 n.src, .int .i64 n.dst, .string n.ty, .slice ka' n.keys.length kc', .slice va' n.vals.length vc'], 40), ([.slice none 0 0, .slice none 0 0], 25)] gb cap (g.edges.length + 1) w8 (((g.edges.take (m + 1) ++ n :: g.edges.drop (m + 1)).set (m + 1) y).set m n) (setMany (setMany cl ((m + 1) * 6) [.int .i64 y.id, .int .i64 y.src, .int .i64 y.dst, .string y.ty, .slice yka y.keys.length ykc, .slice yva y.vals.length yvc]) (m * 6) [.int .i64 n.id, .int .i64 n.src, .int .i64 n.dst, .string n.ty, .slice ka' n.keys.length kc', .slice va' n.vals.length vc']) u2) := Lib.hid (by rw [← hu2]; exact HS15.out.put ownIsEO (by have := HLT.out; have := HG1.out; simp; omega) HGN.out (by simp; omega) HX1.out (by obtain ⟨_, h9, _⟩ := HX1.out; exact IsEO.one _ _ _ h9))
              have HU2 := Lib.hid hu2
              clear hu2
              have bo9 : u1.cell? ⟨w2.heap.size, 1, none⟩ = some (.slice (some ⟨gb, 0, none⟩) (g.edges.length + 1) cap) := (HBO8.out.of_heap (HS15.out.kp _ (fun e => HGW.out e.symm))).cell rfl
              have e1_0 : u1.cell? ⟨w.heap.size + 1, 0, none⟩ = some (.int .i64 n.id) := HS15.out.bx.cell 1 0 rfl rfl
              have e1_1 : u1.cell? ⟨w.heap.size + 1, 1, none⟩ = some (.int .i64 n.src) := HS15.out.bx.cell 1 1 rfl rfl
              have e1_2 : u1.cell? ⟨w.heap.size + 1, 2, none⟩ = some (.int .i64 n.dst) := HS15.out.bx.cell 1 2 rfl rfl
              have e1_3 : u1.cell? ⟨w.heap.size + 1, 3, none⟩ = some (.string n.ty) := HS15.out.bx.cell 1 3 rfl rfl
              have e1_4 : u1.cell? ⟨w.heap.size + 1, 4, none⟩ = some (.slice ka' n.keys.length kc') := HS15.out.bx.cell 1 4 rfl rfl
              have e1_5 : u1.cell? ⟨w.heap.size + 1, 5, none⟩ = some (.slice va' n.vals.length vc') := HS15.out.bx.cell 1 5 rfl rfl
              have hwm : IntKind.i64.wrap (((m + 1 : Nat) : Int) - 1) = (m : Int) := hwj
              go_wp2_with (refine wpList_store_mid rfl 40 _ _ rfl gb (m * 6) #[.int .i64 n.id, .int .i64 n.src, .int .i64 n.dst, .string n.ty, .slice ka' n.keys.length kc', .slice va' n.vals.length vc'] rfl rfl HTV.out (by kernel_rfl) (by simp [Value.oneCell']) ?_; rw [HU2.out])
              go_roundw
              case rel => exact ⟨m, _, by first | rfl | go_num, by omega, Lib.hid (by have h9 := HS16.out; rw [swap_list HY.out] at h9; exact h9), Lib.hid (fun i x hi hx => by
                rcases Nat.lt_or_ge m i with h | h
                · exact HGE.out i x (by omega) hx
                · have e : i = m := by omega
                  subst e
                  unfold idsE at hx
                  rw [List.getElem?_map, HY.out] at hx
                  injection hx with hx
                  rw [← hx]
                  exact hgt)⟩
              case measure => simp [intOf]
            · skip
              have hle : y.id ≤ n.id := by omega
              have HYN : Hid (∀ x, (m + 1) ≠ 0 → (idsE g)[m + 1 - 1]? = some x → ¬ n.id < x) := Lib.hid (fun x _ hx => by
                unfold idsE at hx
                rw [Nat.add_sub_cancel, List.getElem?_map, HY.out] at hx
                injection hx with hx
                rw [← hx]
                exact hgt)
              go_wp2_with fail
              refine wp_region_noPanic ?_
              refine wp_region_J (S := fun u : World => u.cell? ⟨w2.heap.size, 1, none⟩ = some (.slice (some ⟨gb, 0, none⟩) (g.edges.length + 1) cap) ∧ u.cell? ⟨w.heap.size + 1, 0, none⟩ = some (.int .i64 n.id) ∧ u.cell? ⟨gb, m * 6, none⟩ = some (.int .i64 y.id) ∧ u.cell? ⟨gb, m * 6 + 1, none⟩ = some (.int .i64 y.src) ∧ u.cell? ⟨gb, m * 6 + 2, none⟩ = some (.int .i64 y.dst) ∧ u.cell? ⟨gb, m * 6 + 3, none⟩ = some (.string y.ty) ∧ u.cell? ⟨gb, m * 6 + 4, none⟩ = some (.slice yka y.keys.length ykc) ∧ u.cell? ⟨gb, m * 6 + 5, none⟩ = some (.slice yva y.vals.length yvc)) (fun _ => false) (by kernel_rfl) ?_
              obtain ⟨wd, hwd⟩ : ∃ u, wr.drew = u := ⟨_, rfl⟩
              rw [hwd] at HSD ⊢
              have HYK := Lib.hid (show Keeps IsEO (fun q => q ∈ b2 ∨ q ∈ bs3) wd [.int .i64 y.id, .int .i64 y.src, .int .i64 y.dst, .string y.ty, .slice yka y.keys.length ykc, .slice yva y.vals.length yvc] y from HYK.out.same ownIsEO (fun q hq => by rw [← hwd]; rfl))
              clear hwd
              have hHeld : (fun u : World => u.cell? ⟨w2.heap.size, 1, none⟩ = some (.slice (some ⟨gb, 0, none⟩) (g.edges.length + 1) cap) ∧ u.cell? ⟨w.heap.size + 1, 0, none⟩ = some (.int .i64 n.id) ∧ u.cell? ⟨gb, m * 6, none⟩ = some (.int .i64 y.id) ∧ u.cell? ⟨gb, m * 6 + 1, none⟩ = some (.int .i64 y.src) ∧ u.cell? ⟨gb, m * 6 + 2, none⟩ = some (.int .i64 y.dst) ∧ u.cell? ⟨gb, m * 6 + 3, none⟩ = some (.string y.ty) ∧ u.cell? ⟨gb, m * 6 + 4, none⟩ = some (.slice yka y.keys.length ykc) ∧ u.cell? ⟨gb, m * 6 + 5, none⟩ = some (.slice yva y.vals.length yvc)) wd := ⟨(HBO8.out.of_heap (HSD.out.kp _ (fun e => HGW.out e.symm))).cell rfl, HSD.out.bx.cell 1 0 rfl rfl, own_cell HSD.out.own (HYG.out 0 _ rfl), own_cell HSD.out.own (HYG.out 1 _ rfl), own_cell HSD.out.own (HYG.out 2 _ rfl), own_cell HSD.out.own (HYG.out 3 _ rfl), own_cell HSD.out.own (HYG.out 4 _ rfl), own_cell HSD.out.own (HYG.out 5 _ rfl)⟩
              refine wpAnyJ_take0 (i := 0) (v := ?_) rfl (by kernel_rfl) (by kernel_rfl) (by kernel_rfl) (fun _ _ _ h => h) (Or.inl ⟨by rfl, ?_⟩) ?_
              rotate_left
              focus ((intro w hSw; clear hSw; go_simp); try with_reducible rfl)
              (try simp only [Act.put, List.getElem_toArray, List.getElem_cons_zero, List.getElem_cons_succ, List.setIfInBounds_toArray, List.set_cons_zero, List.set_cons_succ])
              refine wpAnyJ_take0 (i := 1) (v := ?_) rfl (by kernel_rfl) (by kernel_rfl) (by kernel_rfl) (fun _ _ _ h => h) (Or.inl ⟨by rfl, ?_⟩) ?_
              rotate_left
              focus ((intro w hSw; clear hSw; go_simp); try with_reducible rfl)
              (try simp only [Act.put, List.getElem_toArray, List.getElem_cons_zero, List.getElem_cons_succ, List.setIfInBounds_toArray, List.set_cons_zero, List.set_cons_succ])
              refine wpAnyJ_take0 (i := 2) (v := ?_) rfl (by kernel_rfl) (by kernel_rfl) (by kernel_rfl) (fun _ _ _ h => h) (Or.inl ⟨by rfl, ?_⟩) ?_
              rotate_left
              focus ((intro w hSw; clear hSw; go_simp); try with_reducible rfl)
              (try simp only [Act.put, List.getElem_toArray, List.getElem_cons_zero, List.getElem_cons_succ, List.setIfInBounds_toArray, List.set_cons_zero, List.set_cons_succ])
              refine wpAnyJ_take0 (i := 3) (v := ?_) rfl (by kernel_rfl) (by kernel_rfl) (by kernel_rfl) (fun _ _ _ h => h) (Or.inl ⟨by rfl, ?_⟩) ?_
              rotate_left
              focus ((intro w hSw; clear hSw; go_simp); try with_reducible rfl)
              (try simp only [Act.put, List.getElem_toArray, List.getElem_cons_zero, List.getElem_cons_succ, List.setIfInBounds_toArray, List.set_cons_zero, List.set_cons_succ])
              refine wpAnyJ_take (i := 4) (v := ?_) rfl (by kernel_rfl) (by kernel_rfl) (by kernel_rfl) (by kernel_rfl) (fun _ _ _ h => h) (Or.inl ⟨by rfl, ?_⟩) (by assumption) ?_
              rotate_left
              focus ((intro w hSw; (try dsimp only at hSw); go_simp); try with_reducible rfl)
              (try simp only [Act.put, List.getElem_toArray, List.getElem_cons_zero, List.getElem_cons_succ, List.setIfInBounds_toArray, List.set_cons_zero, List.set_cons_succ])
              refine wpAnyJ_take0 (i := 5) (v := ?_) rfl (by kernel_rfl) (by kernel_rfl) (by kernel_rfl) (fun _ _ _ h => h) (Or.inl ⟨by rfl, ?_⟩) ?_
              rotate_left
              focus ((intro w hSw; clear hSw; go_simp); try with_reducible rfl)
              (try simp only [Act.put, List.getElem_toArray, List.getElem_cons_zero, List.getElem_cons_succ, List.setIfInBounds_toArray, List.set_cons_zero, List.set_cons_succ])
              refine wpAnyJ_take0 (i := 6) (v := ?_) rfl (by kernel_rfl) (by kernel_rfl) (by kernel_rfl) (fun _ _ _ h => h) (Or.inl ⟨by rfl, ?_⟩) ?_
              rotate_left
              focus ((intro w hSw; clear hSw; go_simp); try with_reducible rfl)
              (try simp only [Act.put, List.getElem_toArray, List.getElem_cons_zero, List.getElem_cons_succ, List.setIfInBounds_toArray, List.set_cons_zero, List.set_cons_succ])
              refine wpAnyJ_take0 (i := 7) (v := ?_) rfl (by kernel_rfl) (by kernel_rfl) (by kernel_rfl) (fun _ _ _ h => h) (Or.inl ⟨by rfl, ?_⟩) ?_
              rotate_left
              focus ((intro w hSw; clear hSw; go_simp); try with_reducible rfl)
              (try simp only [Act.put, List.getElem_toArray, List.getElem_cons_zero, List.getElem_cons_succ, List.setIfInBounds_toArray, List.set_cons_zero, List.set_cons_succ])
              refine wpAnyJ_take0 (i := 8) (v := ?_) rfl (by kernel_rfl) (by kernel_rfl) (by kernel_rfl) (fun _ _ _ h => h) (Or.inl ⟨by rfl, ?_⟩) ?_
              rotate_left
              focus ((intro w hSw; clear hSw; go_simp); try with_reducible rfl)
              (try simp only [Act.put, List.getElem_toArray, List.getElem_cons_zero, List.getElem_cons_succ, List.setIfInBounds_toArray, List.set_cons_zero, List.set_cons_succ])
              refine wpAnyJ_take (i := 9) (v := ?_) rfl (by kernel_rfl) (by kernel_rfl) (by kernel_rfl) (by kernel_rfl) (fun _ _ _ h => h) (Or.inl ⟨by rfl, ?_⟩) (by assumption) ?_
              rotate_left
              focus ((intro w hSw; (try dsimp only at hSw); go_simp); try with_reducible rfl)
              (try simp only [Act.put, List.getElem_toArray, List.getElem_cons_zero, List.getElem_cons_succ, List.setIfInBounds_toArray, List.set_cons_zero, List.set_cons_succ])
              refine wpAnyJ_take0 (i := 10) (v := ?_) rfl (by kernel_rfl) (by kernel_rfl) (by kernel_rfl) (fun _ _ _ h => h) (Or.inl ⟨by rfl, ?_⟩) ?_
              rotate_left
              focus ((intro w hSw; clear hSw; go_simp); try with_reducible rfl)
              (try simp only [Act.put, List.getElem_toArray, List.getElem_cons_zero, List.getElem_cons_succ, List.setIfInBounds_toArray, List.set_cons_zero, List.set_cons_succ])
              refine wpAnyJ_take (i := 11) (v := ?_) rfl (by kernel_rfl) (by kernel_rfl) (by kernel_rfl) (by kernel_rfl) (fun _ _ _ h => h) (Or.inl ⟨by rfl, ?_⟩) (by assumption) ?_
              rotate_left
              focus ((intro w hSw; (try dsimp only at hSw); go_simp); try with_reducible rfl)
              (try simp only [Act.put, List.getElem_toArray, List.getElem_cons_zero, List.getElem_cons_succ, List.setIfInBounds_toArray, List.set_cons_zero, List.set_cons_succ])
              refine wpAnyJ_take0 (i := 12) (v := ?_) rfl (by kernel_rfl) (by kernel_rfl) (by kernel_rfl) (fun _ _ _ h => h) (Or.inl ⟨by rfl, ?_⟩) ?_
              rotate_left
              focus ((intro w hSw; clear hSw; go_simp); try with_reducible rfl)
              (try simp only [Act.put, List.getElem_toArray, List.getElem_cons_zero, List.getElem_cons_succ, List.setIfInBounds_toArray, List.set_cons_zero, List.set_cons_succ])
              refine wpAnyJ_take0 (i := 13) (v := ?_) rfl (by kernel_rfl) (by kernel_rfl) (by kernel_rfl) (fun _ _ _ h => h) (Or.inl ⟨by rfl, ?_⟩) ?_
              rotate_left
              focus ((intro w hSw; clear hSw; go_simp); try with_reducible rfl)
              (try simp only [Act.put, List.getElem_toArray, List.getElem_cons_zero, List.getElem_cons_succ, List.setIfInBounds_toArray, List.set_cons_zero, List.set_cons_succ])
              refine wpAnyJ_done (by kernel_rfl) ?_ _
              refine NoPanic.normal ?_
              clear hHeld
              have HPO : Hid (posI (idsE g) n.id = m + 1) := Lib.hid (posI_of HRI.out HII.out (by rw [HIL.out]; exact hj) HGE.out (fun x h0 hx => by have := HYN.out x h0 hx; omega))
              have HP2 : Hid (joinG g n = (0, ⟨g.nodes, g.edges.take (m + 1) ++ n :: g.edges.drop (m + 1)⟩)) := Lib.hid (by rw [HP.out, HPO.out]; rfl)
              have HPK : Hid (∀ q, (q ∈ b2 ∨ q ∈ bs3) → w.heap.size + 2 + 1 ≤ q ∧ q < wd.heap.size) := Lib.hid (fun q hq => by have h9 := HPP.out q hq; have := HLT.out; have := HWM.out; have h8 := HSD.out.sz; have := HZ78.out; exact ⟨by omega, by omega⟩)
              have HBX9 : Hid (Bx w [([.slice na g.nodes.length nc, .slice ea g.edges.length ec], 25), ([.int .i64 n.id, .int .i64 n.src, .int .i64 n.dst, .string n.ty, .slice ka' n.keys.length kc', .slice va' n.vals.length vc'], 40), ([.slice none 0 0, .slice none 0 0], 25)] wd) := Lib.hid HSD.out.bx
              have hbo : Block wd w2.heap.size [.slice na' g.nodes.length nc', .slice (some ⟨gb, 0, none⟩) (g.edges.length + 1) cap] 25 := HBO8.out.of_heap (HSD.out.kp _ (fun e => HGW.out e.symm))
              have v0 : wd.cell? ⟨w2.heap.size, 0, none⟩ = some (.slice na' g.nodes.length nc') := hbo.cell rfl
              have v1 : wd.cell? ⟨w2.heap.size, 1, none⟩ = some (.slice (some ⟨gb, 0, none⟩) (g.edges.length + 1) cap) := hbo.cell rfl
              have HT2 : Hid (wd.there (w.heap.size + 2) 0 2) := Lib.hid (show Block wd (w.heap.size + 2) [.slice none 0 0, .slice none 0 0] 25 from HBX9.out.blk 2 _ _ rfl).there
              obtain ⟨we, hwe⟩ : ∃ we, wd.setCells (w.heap.size + 2) 0 (#[.slice na' g.nodes.length nc', .slice (some ⟨gb, 0, none⟩) (g.edges.length + 1) cap] : Array Value).toList = we := ⟨_, rfl⟩
              have hbe : Block we (w.heap.size + 2) [.slice na' g.nodes.length nc', .slice (some ⟨gb, 0, none⟩) (g.edges.length + 1) cap] 25 := by rw [← hwe]; exact ((show Block wd (w.heap.size + 2) [.slice none 0 0, .slice none 0 0] 25 from HBX9.out.blk 2 _ _ rfl).set 0 _).set 1 _
              have q0 : we.cell? ⟨w.heap.size + 2, 0, none⟩ = some (.slice na' g.nodes.length nc') := hbe.cell rfl
              have q1 : we.cell? ⟨w.heap.size + 2, 1, none⟩ = some (.slice (some ⟨gb, 0, none⟩) (g.edges.length + 1) cap) := hbe.cell rfl
              have HBE : Hid (Below w.heap.size w we) := Lib.hid (by rw [← hwe]; exact ((HBX9.out.put 2 0 rfl (.slice na' g.nodes.length nc')).put 2 1 rfl (.slice (some ⟨gb, 0, none⟩) (g.edges.length + 1) cap)).bel)
              have HKE : Hid (∀ q, q ≠ w.heap.size + 2 → we.heap[q]? = wd.heap[q]?) := Lib.hid (fun q hq => by rw [← hwe]; exact setW_other _ _ _ _ _ hq)
              have HZE : Hid (we.heap.size = wd.heap.size) := Lib.hid (by rw [← hwe]; exact setW_size _ _ _ _)
              have HWE := Lib.hid hwe
              clear hbo hbe hwe
              go_wp2_with (first | (refine wpList_store_mid rfl 25 _ _ rfl (w.heap.size + 2) 0 #[.slice na' g.nodes.length nc', .slice (some ⟨gb, 0, none⟩) (g.edges.length + 1) cap] rfl rfl HT2.out (by kernel_rfl) (by simp [Value.oneCell']) ?_; rw [HWE.out]))
              refine bodyPost_ret (by simp [results, Try.results43, go_sem, q0, q1]; rfl) rfl ?_
              rw [HP2.out]
              refine ⟨_, rfl, HBE.out, ?_⟩
              exact (ins_edge (b := w.heap.size + 2) HSD.out HRO8.out HOK.out HPK.out HGB.out HKE.out HZE.out).mono (by omega)
end Go.Proofs.Ytoakloicjlfaaaa

/- Layer 14: a change by the program, and by the document. Conditions: the graph's numbers rise, what is read is small. -/
namespace Go.Proofs.Ytoakloicjlfaaaa
open Go.RowKit
set_option linter.unusedSimpArgs false
set_option linter.unusedVariables false
set_option maxRecDepth 100000

theorem IsOp.form {B : Nat} {w : World} {cs : List Value} {o : Opt} (h : IsOp B w cs o) : ∃ la lc ka kc va vc dka dkc dva dvc,
    cs = [.int .i64 o.kind, .int .i64 o.n.id, .slice la o.n.labels.length lc, .slice ka o.n.keys.length kc, .slice va o.n.vals.length vc, .int .i64 o.e.id, .int .i64 o.e.src, .int .i64 o.e.dst, .string o.e.ty, .slice dka o.e.keys.length dkc, .slice dva o.e.vals.length dvc, .int .i64 o.id] ∧
    IsN B w [.int .i64 o.n.id, .slice la o.n.labels.length lc, .slice ka o.n.keys.length kc, .slice va o.n.vals.length vc] o.n ∧ IsE B w [.int .i64 o.e.id, .int .i64 o.e.src, .int .i64 o.e.dst, .string o.e.ty, .slice dka o.e.keys.length dkc, .slice dva o.e.vals.length dvc] o.e := by
  obtain ⟨cn, ce, h1, h2, h3, h4, h5⟩ := h
  obtain ⟨la, lc, ka, kc, va, vc, rfl⟩ := node_cells h4
  obtain ⟨dka, dkc, dva, dvc, rfl⟩ := edge_cells h5
  exact ⟨la, lc, ka, kc, va, vc, dka, dkc, dva, dvc, h1, h4, h5⟩

set_option maxHeartbeats 16000000 in
theorem change_any (g : Gt) (o : Opt) (cs ds : List Value) (B : Nat) (w : World) (hg : IsG B w cs g) (ho : IsOp B w ds o) (hB : B ≤ w.heap.size) (hr : RiseI (idsN g)) (hre : RiseI (idsE g)) (hsm : SmG g) (hsn : SmN o.n) (hse : SmE o.e) :
    Calls Try.prog 13 #[.agg cs.toArray, .agg ds.toArray] w (ResP (chG g o) w) := by
  have hg0 := hg
  obtain ⟨na, nc, ea, ec, rfl, -⟩ := hg
  obtain ⟨la, lc, ka, kc, va, vc, dka, dkc, dva, dvc, rfl, hn, he⟩ := ho.form
  show Calls Try.prog 13 #[.agg #[.slice na g.nodes.length nc, .slice ea g.edges.length ec], .agg #[.int .i64 o.kind, .int .i64 o.n.id, .slice la o.n.labels.length lc, .slice ka o.n.keys.length kc, .slice va o.n.vals.length vc, .int .i64 o.e.id, .int .i64 o.e.src, .int .i64 o.e.dst, .string o.e.ty, .slice dka o.e.keys.length dkc, .slice dva o.e.vals.length dvc, .int .i64 o.id]] w _
  obtain ⟨W0, hW0⟩ : ∃ W0, ((w.alloc (.cells #[.slice na g.nodes.length nc, .slice ea g.edges.length ec] 25)).alloc (.cells #[.int .i64 o.kind, .int .i64 o.n.id, .slice la o.n.labels.length lc, .slice ka o.n.keys.length kc, .slice va o.n.vals.length vc, .int .i64 o.e.id, .int .i64 o.e.src, .int .i64 o.e.dst, .string o.e.ty, .slice dka o.e.keys.length dkc, .slice dva o.e.vals.length dvc, .int .i64 o.id] 42)).alloc (.cells #[.slice none 0 0, .slice none 0 0] 25) = W0 := ⟨_, rfl⟩
  have HBX : Hid (Bx w [([.slice na g.nodes.length nc, .slice ea g.edges.length ec], 25), ([.int .i64 o.kind, .int .i64 o.n.id, .slice la o.n.labels.length lc, .slice ka o.n.keys.length kc, .slice va o.n.vals.length vc, .int .i64 o.e.id, .int .i64 o.e.src, .int .i64 o.e.dst, .string o.e.ty, .slice dka o.e.keys.length dkc, .slice dva o.e.vals.length dvc, .int .i64 o.id], 42), ([.slice none 0 0, .slice none 0 0], 25)] W0) := Lib.hid (by rw [← hW0]; exact ((((((Bx.nil w).alloc rfl [.slice na g.nodes.length nc, .slice ea g.edges.length ec] 25)).alloc (by simp) [.int .i64 o.kind, .int .i64 o.n.id, .slice la o.n.labels.length lc, .slice ka o.n.keys.length kc, .slice va o.n.vals.length vc, .int .i64 o.e.id, .int .i64 o.e.src, .int .i64 o.e.dst, .string o.e.ty, .slice dka o.e.keys.length dkc, .slice dva o.e.vals.length dvc, .int .i64 o.id] 42)).alloc (by simp) [.slice none 0 0, .slice none 0 0] 25))
  have HW0 := Lib.hid hW0
  have HPUT := Lib.hid (fun (w' : World) (hb : Below w.heap.size w w') => put_any g o.n _ _ B w' (hg0.below hb hB) (hn.below hb hB) (Nat.le_trans hB hb.size) hr hsm hsn)
  have HJOIN := Lib.hid (fun (w' : World) (hb : Below w.heap.size w w') => join_any g o.e _ _ B w' (hg0.below hb hB) (he.below hb hB) (Nat.le_trans hB hb.size) hr hre hsm hse)
  have HDROP := Lib.hid (fun (w' : World) (hb : Below w.heap.size w w') => drop_any g o.id _ B w' (hg0.below hb hB) (Nat.le_trans hB hb.size) hr hsm)
  have HCUT := Lib.hid (fun (w' : World) (hb : Below w.heap.size w w') => cut_any g o.id _ B w' (hg0.below hb hB) (Nat.le_trans hB hb.size) hre hsm)
  obtain ⟨R, hR⟩ : ∃ R, chG g o = R := ⟨_, rfl⟩
  have HR := Lib.hid hR
  unfold chG at hR
  have i0_0 : W0.cell? ⟨w.heap.size, 0, none⟩ = some (.slice na g.nodes.length nc) := HBX.out.cell 0 0 rfl rfl
  have i0_1 : W0.cell? ⟨w.heap.size, 1, none⟩ = some (.slice ea g.edges.length ec) := HBX.out.cell 0 1 rfl rfl
  have i1_0 : W0.cell? ⟨w.heap.size + 1, 0, none⟩ = some (.int .i64 o.kind) := HBX.out.cell 1 0 rfl rfl
  have i1_1 : W0.cell? ⟨w.heap.size + 1, 1, none⟩ = some (.int .i64 o.n.id) := HBX.out.cell 1 1 rfl rfl
  have i1_2 : W0.cell? ⟨w.heap.size + 1, 2, none⟩ = some (.slice la o.n.labels.length lc) := HBX.out.cell 1 2 rfl rfl
  have i1_3 : W0.cell? ⟨w.heap.size + 1, 3, none⟩ = some (.slice ka o.n.keys.length kc) := HBX.out.cell 1 3 rfl rfl
  have i1_4 : W0.cell? ⟨w.heap.size + 1, 4, none⟩ = some (.slice va o.n.vals.length vc) := HBX.out.cell 1 4 rfl rfl
  have i1_5 : W0.cell? ⟨w.heap.size + 1, 5, none⟩ = some (.int .i64 o.e.id) := HBX.out.cell 1 5 rfl rfl
  have i1_6 : W0.cell? ⟨w.heap.size + 1, 6, none⟩ = some (.int .i64 o.e.src) := HBX.out.cell 1 6 rfl rfl
  have i1_7 : W0.cell? ⟨w.heap.size + 1, 7, none⟩ = some (.int .i64 o.e.dst) := HBX.out.cell 1 7 rfl rfl
  have i1_8 : W0.cell? ⟨w.heap.size + 1, 8, none⟩ = some (.string o.e.ty) := HBX.out.cell 1 8 rfl rfl
  have i1_9 : W0.cell? ⟨w.heap.size + 1, 9, none⟩ = some (.slice dka o.e.keys.length dkc) := HBX.out.cell 1 9 rfl rfl
  have i1_10 : W0.cell? ⟨w.heap.size + 1, 10, none⟩ = some (.slice dva o.e.vals.length dvc) := HBX.out.cell 1 10 rfl rfl
  have i1_11 : W0.cell? ⟨w.heap.size + 1, 11, none⟩ = some (.int .i64 o.id) := HBX.out.cell 1 11 rfl rfl
  have i2_0 : W0.cell? ⟨w.heap.size + 2, 0, none⟩ = some (.slice none 0 0) := HBX.out.cell 2 0 rfl rfl
  have i2_1 : W0.cell? ⟨w.heap.size + 2, 1, none⟩ = some (.slice none 0 0) := HBX.out.cell 2 1 rfl rfl
  rw [← hW0] at i0_0 i0_1 i1_0 i1_1 i1_2 i1_3 i1_4 i1_5 i1_6 i1_7 i1_8 i1_9 i1_10 i1_11 i2_0 i2_1
  clear hW0 hg0 hn he ho hr hre hsm hsn hse hB
  rw [HR.out]
  clear HR
  by_cases h0 : o.kind = 0
  · skip
    have hk0 : (o.kind == 0) = true := by rw [h0]; rfl
    rw [if_pos h0] at hR
    have HRR := Lib.hid hR
    clear hR
    clear h0
    go_enter Try.func13, Try.ntmps13
    go_wp2_with fail
    (try rw [show w.heap.size + 1 + 1 = w.heap.size + 2 from rfl])
    rw [HW0.out]
    refine (HPUT.out _ HBX.out.bel).mono ?_
    rintro e w2 ⟨cs2, bs2, rfl, hb2, hG2, hn2, hr2⟩
    obtain ⟨ra, rc, rd, re, rfl⟩ := hG2.form
    have HBX2 := Lib.hid (HBX.out.below hb2)
    have HE2 := Lib.hid (show _ ∧ _ ∧ _ ∧ _ from ⟨hb2, hG2, hn2, hr2⟩)
    clear hb2 hG2 hn2 hr2 i0_0 i0_1 i1_0 i1_1 i1_2 i1_3 i1_4 i1_5 i1_6 i1_7 i1_8 i1_9 i1_10 i1_11 i2_0 i2_1
    rw [HRR.out] at HE2 ⊢
    have HT2 : Hid (w2.there (w.heap.size + 2) 0 2) := Lib.hid (show Block w2 (w.heap.size + 2) [.slice none 0 0, .slice none 0 0] 25 from HBX2.out.blk 2 _ _ rfl).there
    obtain ⟨we, hwe⟩ : ∃ we, w2.setCells (w.heap.size + 2) 0 (#[.slice ra R.2.nodes.length rc, .slice rd R.2.edges.length re] : Array Value).toList = we := ⟨_, rfl⟩
    have hbe : Block we (w.heap.size + 2) [.slice ra R.2.nodes.length rc, .slice rd R.2.edges.length re] 25 := by rw [← hwe]; exact ((show Block w2 (w.heap.size + 2) [.slice none 0 0, .slice none 0 0] 25 from HBX2.out.blk 2 _ _ rfl).set 0 _).set 1 _
    have q0 : we.cell? ⟨w.heap.size + 2, 0, none⟩ = some (.slice ra R.2.nodes.length rc) := hbe.cell rfl
    have q1 : we.cell? ⟨w.heap.size + 2, 1, none⟩ = some (.slice rd R.2.edges.length re) := hbe.cell rfl
    have HBE : Hid (Below w.heap.size w we) := Lib.hid (by rw [← hwe]; exact ((HBX2.out.put 2 0 rfl (.slice ra R.2.nodes.length rc)).put 2 1 rfl (.slice rd R.2.edges.length re)).bel)
    have HKE : Hid (∀ q, q ≠ w.heap.size + 2 → we.heap[q]? = w2.heap[q]?) := Lib.hid (fun q hq => by rw [← hwe]; exact setW_other _ _ _ _ _ hq)
    have HZE : Hid (we.heap.size = w2.heap.size) := Lib.hid (by rw [← hwe]; exact setW_size _ _ _ _)
    have HWE := Lib.hid hwe
    have HZ0 : Hid (w.heap.size + 3 ≤ W0.heap.size) := Lib.hid (by have := HBX.out.len; simpa using this)
    clear hbe hwe
    go_wp2_with (refine wpList_store_mid rfl 25 _ _ rfl (w.heap.size + 2) 0 #[.slice ra R.2.nodes.length rc, .slice rd R.2.edges.length re] rfl rfl HT2.out (by kernel_rfl) (by simp [Value.oneCell']) ?_; rw [HWE.out])
    refine bodyPost_ret (by simp [results, Try.results13, go_sem, q0, q1]; rfl) rfl ?_
    obtain ⟨hb2, hG2, hn2, hr2⟩ := HE2.out
    have hz0 := HZ0.out
    exact ⟨_, bs2, rfl, HBE.out, hG2.same (fun q hq => HKE.out q (by have := (hr2 q hq).1; omega)), hn2, fun q hq => ⟨by have := (hr2 q hq).1; omega, by rw [HZE.out]; exact (hr2 q hq).2⟩⟩
  · by_cases h1 : o.kind = 1
    · skip
      have hk0 : (o.kind == 0) = false := by simpa using h0
      have hk1 : (o.kind == 1) = true := by rw [h1]; rfl
      rw [if_neg h0, if_pos h1] at hR
      have HRR := Lib.hid hR
      clear hR
      clear h1
      go_enter Try.func13, Try.ntmps13
      go_wp2_with fail
      (try rw [show w.heap.size + 1 + 1 = w.heap.size + 2 from rfl])
      rw [HW0.out]
      refine (HJOIN.out _ HBX.out.bel).mono ?_
      rintro e w2 ⟨cs2, bs2, rfl, hb2, hG2, hn2, hr2⟩
      obtain ⟨ra, rc, rd, re, rfl⟩ := hG2.form
      have HBX2 := Lib.hid (HBX.out.below hb2)
      have HE2 := Lib.hid (show _ ∧ _ ∧ _ ∧ _ from ⟨hb2, hG2, hn2, hr2⟩)
      clear hb2 hG2 hn2 hr2 i0_0 i0_1 i1_0 i1_1 i1_2 i1_3 i1_4 i1_5 i1_6 i1_7 i1_8 i1_9 i1_10 i1_11 i2_0 i2_1
      rw [HRR.out] at HE2 ⊢
      have HT2 : Hid (w2.there (w.heap.size + 2) 0 2) := Lib.hid (show Block w2 (w.heap.size + 2) [.slice none 0 0, .slice none 0 0] 25 from HBX2.out.blk 2 _ _ rfl).there
      obtain ⟨we, hwe⟩ : ∃ we, w2.setCells (w.heap.size + 2) 0 (#[.slice ra R.2.nodes.length rc, .slice rd R.2.edges.length re] : Array Value).toList = we := ⟨_, rfl⟩
      have hbe : Block we (w.heap.size + 2) [.slice ra R.2.nodes.length rc, .slice rd R.2.edges.length re] 25 := by rw [← hwe]; exact ((show Block w2 (w.heap.size + 2) [.slice none 0 0, .slice none 0 0] 25 from HBX2.out.blk 2 _ _ rfl).set 0 _).set 1 _
      have q0 : we.cell? ⟨w.heap.size + 2, 0, none⟩ = some (.slice ra R.2.nodes.length rc) := hbe.cell rfl
      have q1 : we.cell? ⟨w.heap.size + 2, 1, none⟩ = some (.slice rd R.2.edges.length re) := hbe.cell rfl
      have HBE : Hid (Below w.heap.size w we) := Lib.hid (by rw [← hwe]; exact ((HBX2.out.put 2 0 rfl (.slice ra R.2.nodes.length rc)).put 2 1 rfl (.slice rd R.2.edges.length re)).bel)
      have HKE : Hid (∀ q, q ≠ w.heap.size + 2 → we.heap[q]? = w2.heap[q]?) := Lib.hid (fun q hq => by rw [← hwe]; exact setW_other _ _ _ _ _ hq)
      have HZE : Hid (we.heap.size = w2.heap.size) := Lib.hid (by rw [← hwe]; exact setW_size _ _ _ _)
      have HWE := Lib.hid hwe
      have HZ0 : Hid (w.heap.size + 3 ≤ W0.heap.size) := Lib.hid (by have := HBX.out.len; simpa using this)
      clear hbe hwe
      go_wp2_with (refine wpList_store_mid rfl 25 _ _ rfl (w.heap.size + 2) 0 #[.slice ra R.2.nodes.length rc, .slice rd R.2.edges.length re] rfl rfl HT2.out (by kernel_rfl) (by simp [Value.oneCell']) ?_; rw [HWE.out])
      refine bodyPost_ret (by simp [results, Try.results13, go_sem, q0, q1]; rfl) rfl ?_
      obtain ⟨hb2, hG2, hn2, hr2⟩ := HE2.out
      have hz0 := HZ0.out
      exact ⟨_, bs2, rfl, HBE.out, hG2.same (fun q hq => HKE.out q (by have := (hr2 q hq).1; omega)), hn2, fun q hq => ⟨by have := (hr2 q hq).1; omega, by rw [HZE.out]; exact (hr2 q hq).2⟩⟩
    · have hk1 : (o.kind == 1) = false := by simpa using h1
      by_cases h2 : o.kind = 2
      · skip
        have hk0 : (o.kind == 0) = false := by simpa using h0
        have hk2 : (o.kind == 2) = true := by rw [h2]; rfl
        rw [if_neg h0, if_neg h1, if_pos h2] at hR
        have HRR := Lib.hid hR
        clear hR
        clear h2
        go_enter Try.func13, Try.ntmps13
        go_wp2_with fail
        (try rw [show w.heap.size + 1 + 1 = w.heap.size + 2 from rfl])
        rw [HW0.out]
        refine (HDROP.out _ HBX.out.bel).mono ?_
        rintro e w2 ⟨cs2, bs2, rfl, hb2, hG2, hn2, hr2⟩
        obtain ⟨ra, rc, rd, re, rfl⟩ := hG2.form
        have HBX2 := Lib.hid (HBX.out.below hb2)
        have HE2 := Lib.hid (show _ ∧ _ ∧ _ ∧ _ from ⟨hb2, hG2, hn2, hr2⟩)
        clear hb2 hG2 hn2 hr2 i0_0 i0_1 i1_0 i1_1 i1_2 i1_3 i1_4 i1_5 i1_6 i1_7 i1_8 i1_9 i1_10 i1_11 i2_0 i2_1
        rw [HRR.out] at HE2 ⊢
        have HT2 : Hid (w2.there (w.heap.size + 2) 0 2) := Lib.hid (show Block w2 (w.heap.size + 2) [.slice none 0 0, .slice none 0 0] 25 from HBX2.out.blk 2 _ _ rfl).there
        obtain ⟨we, hwe⟩ : ∃ we, w2.setCells (w.heap.size + 2) 0 (#[.slice ra R.2.nodes.length rc, .slice rd R.2.edges.length re] : Array Value).toList = we := ⟨_, rfl⟩
        have hbe : Block we (w.heap.size + 2) [.slice ra R.2.nodes.length rc, .slice rd R.2.edges.length re] 25 := by rw [← hwe]; exact ((show Block w2 (w.heap.size + 2) [.slice none 0 0, .slice none 0 0] 25 from HBX2.out.blk 2 _ _ rfl).set 0 _).set 1 _
        have q0 : we.cell? ⟨w.heap.size + 2, 0, none⟩ = some (.slice ra R.2.nodes.length rc) := hbe.cell rfl
        have q1 : we.cell? ⟨w.heap.size + 2, 1, none⟩ = some (.slice rd R.2.edges.length re) := hbe.cell rfl
        have HBE : Hid (Below w.heap.size w we) := Lib.hid (by rw [← hwe]; exact ((HBX2.out.put 2 0 rfl (.slice ra R.2.nodes.length rc)).put 2 1 rfl (.slice rd R.2.edges.length re)).bel)
        have HKE : Hid (∀ q, q ≠ w.heap.size + 2 → we.heap[q]? = w2.heap[q]?) := Lib.hid (fun q hq => by rw [← hwe]; exact setW_other _ _ _ _ _ hq)
        have HZE : Hid (we.heap.size = w2.heap.size) := Lib.hid (by rw [← hwe]; exact setW_size _ _ _ _)
        have HWE := Lib.hid hwe
        have HZ0 : Hid (w.heap.size + 3 ≤ W0.heap.size) := Lib.hid (by have := HBX.out.len; simpa using this)
        clear hbe hwe
        go_wp2_with (refine wpList_store_mid rfl 25 _ _ rfl (w.heap.size + 2) 0 #[.slice ra R.2.nodes.length rc, .slice rd R.2.edges.length re] rfl rfl HT2.out (by kernel_rfl) (by simp [Value.oneCell']) ?_; rw [HWE.out])
        refine bodyPost_ret (by simp [results, Try.results13, go_sem, q0, q1]; rfl) rfl ?_
        obtain ⟨hb2, hG2, hn2, hr2⟩ := HE2.out
        have hz0 := HZ0.out
        exact ⟨_, bs2, rfl, HBE.out, hG2.same (fun q hq => HKE.out q (by have := (hr2 q hq).1; omega)), hn2, fun q hq => ⟨by have := (hr2 q hq).1; omega, by rw [HZE.out]; exact (hr2 q hq).2⟩⟩
      · skip
        have hk0 : (o.kind == 0) = false := by simpa using h0
        have hk2 : (o.kind == 2) = false := by simpa using h2
        rw [if_neg h0, if_neg h1, if_neg h2] at hR
        have HRR := Lib.hid hR
        clear hR
        go_enter Try.func13, Try.ntmps13
        go_wp2_with fail
        (try rw [show w.heap.size + 1 + 1 = w.heap.size + 2 from rfl])
        rw [HW0.out]
        refine (HCUT.out _ HBX.out.bel).mono ?_
        rintro e w2 ⟨cs2, bs2, rfl, hb2, hG2, hn2, hr2⟩
        obtain ⟨ra, rc, rd, re, rfl⟩ := hG2.form
        have HBX2 := Lib.hid (HBX.out.below hb2)
        have HE2 := Lib.hid (show _ ∧ _ ∧ _ ∧ _ from ⟨hb2, hG2, hn2, hr2⟩)
        clear hb2 hG2 hn2 hr2 i0_0 i0_1 i1_0 i1_1 i1_2 i1_3 i1_4 i1_5 i1_6 i1_7 i1_8 i1_9 i1_10 i1_11 i2_0 i2_1
        rw [HRR.out] at HE2 ⊢
        have HT2 : Hid (w2.there (w.heap.size + 2) 0 2) := Lib.hid (show Block w2 (w.heap.size + 2) [.slice none 0 0, .slice none 0 0] 25 from HBX2.out.blk 2 _ _ rfl).there
        obtain ⟨we, hwe⟩ : ∃ we, w2.setCells (w.heap.size + 2) 0 (#[.slice ra R.2.nodes.length rc, .slice rd R.2.edges.length re] : Array Value).toList = we := ⟨_, rfl⟩
        have hbe : Block we (w.heap.size + 2) [.slice ra R.2.nodes.length rc, .slice rd R.2.edges.length re] 25 := by rw [← hwe]; exact ((show Block w2 (w.heap.size + 2) [.slice none 0 0, .slice none 0 0] 25 from HBX2.out.blk 2 _ _ rfl).set 0 _).set 1 _
        have q0 : we.cell? ⟨w.heap.size + 2, 0, none⟩ = some (.slice ra R.2.nodes.length rc) := hbe.cell rfl
        have q1 : we.cell? ⟨w.heap.size + 2, 1, none⟩ = some (.slice rd R.2.edges.length re) := hbe.cell rfl
        have HBE : Hid (Below w.heap.size w we) := Lib.hid (by rw [← hwe]; exact ((HBX2.out.put 2 0 rfl (.slice ra R.2.nodes.length rc)).put 2 1 rfl (.slice rd R.2.edges.length re)).bel)
        have HKE : Hid (∀ q, q ≠ w.heap.size + 2 → we.heap[q]? = w2.heap[q]?) := Lib.hid (fun q hq => by rw [← hwe]; exact setW_other _ _ _ _ _ hq)
        have HZE : Hid (we.heap.size = w2.heap.size) := Lib.hid (by rw [← hwe]; exact setW_size _ _ _ _)
        have HWE := Lib.hid hwe
        have HZ0 : Hid (w.heap.size + 3 ≤ W0.heap.size) := Lib.hid (by have := HBX.out.len; simpa using this)
        clear hbe hwe
        go_wp2_with (refine wpList_store_mid rfl 25 _ _ rfl (w.heap.size + 2) 0 #[.slice ra R.2.nodes.length rc, .slice rd R.2.edges.length re] rfl rfl HT2.out (by kernel_rfl) (by simp [Value.oneCell']) ?_; rw [HWE.out])
        refine bodyPost_ret (by simp [results, Try.results13, go_sem, q0, q1]; rfl) rfl ?_
        obtain ⟨hb2, hG2, hn2, hr2⟩ := HE2.out
        have hz0 := HZ0.out
        exact ⟨_, bs2, rfl, HBE.out, hG2.same (fun q hq => HKE.out q (by have := (hr2 q hq).1; omega)), hn2, fun q hq => ⟨by have := (hr2 q hq).1; omega, by rw [HZE.out]; exact (hr2 q hq).2⟩⟩

set_option maxHeartbeats 16000000 in
theorem should_any (g : Gt) (o : Opt) (cs ds : List Value) (B : Nat) (w : World) (hg : IsG B w cs g) (ho : IsOp B w ds o) (hB : B ≤ w.heap.size) (hr : RiseI (idsN g)) (hre : RiseI (idsE g)) (hsm : SmG g) (hsn : SmN o.n) (hse : SmE o.e) :
    Calls Try.prog 14 #[.agg cs.toArray, .agg ds.toArray] w (ResK (chG g o) w) := by
  have hg0 := hg
  obtain ⟨na, nc, ea, ec, rfl, -⟩ := hg
  obtain ⟨la, lc, ka, kc, va, vc, dka, dkc, dva, dvc, rfl, hn, he⟩ := ho.form
  show Calls Try.prog 14 #[.agg #[.slice na g.nodes.length nc, .slice ea g.edges.length ec], .agg #[.int .i64 o.kind, .int .i64 o.n.id, .slice la o.n.labels.length lc, .slice ka o.n.keys.length kc, .slice va o.n.vals.length vc, .int .i64 o.e.id, .int .i64 o.e.src, .int .i64 o.e.dst, .string o.e.ty, .slice dka o.e.keys.length dkc, .slice dva o.e.vals.length dvc, .int .i64 o.id]] w _
  obtain ⟨W0, hW0⟩ : ∃ W0, ((w.alloc (.cells #[.slice na g.nodes.length nc, .slice ea g.edges.length ec] 25)).alloc (.cells #[.int .i64 o.kind, .int .i64 o.n.id, .slice la o.n.labels.length lc, .slice ka o.n.keys.length kc, .slice va o.n.vals.length vc, .int .i64 o.e.id, .int .i64 o.e.src, .int .i64 o.e.dst, .string o.e.ty, .slice dka o.e.keys.length dkc, .slice dva o.e.vals.length dvc, .int .i64 o.id] 42)).alloc (.cells #[.slice none 0 0, .slice none 0 0] 25) = W0 := ⟨_, rfl⟩
  have HBX : Hid (Bx w [([.slice na g.nodes.length nc, .slice ea g.edges.length ec], 25), ([.int .i64 o.kind, .int .i64 o.n.id, .slice la o.n.labels.length lc, .slice ka o.n.keys.length kc, .slice va o.n.vals.length vc, .int .i64 o.e.id, .int .i64 o.e.src, .int .i64 o.e.dst, .string o.e.ty, .slice dka o.e.keys.length dkc, .slice dva o.e.vals.length dvc, .int .i64 o.id], 42), ([.slice none 0 0, .slice none 0 0], 25)] W0) := Lib.hid (by rw [← hW0]; exact ((((((Bx.nil w).alloc rfl [.slice na g.nodes.length nc, .slice ea g.edges.length ec] 25)).alloc (by simp) [.int .i64 o.kind, .int .i64 o.n.id, .slice la o.n.labels.length lc, .slice ka o.n.keys.length kc, .slice va o.n.vals.length vc, .int .i64 o.e.id, .int .i64 o.e.src, .int .i64 o.e.dst, .string o.e.ty, .slice dka o.e.keys.length dkc, .slice dva o.e.vals.length dvc, .int .i64 o.id] 42)).alloc (by simp) [.slice none 0 0, .slice none 0 0] 25))
  have HW0 := Lib.hid hW0
  have HPUT := Lib.hid (fun (w' : World) (hb : Below w.heap.size w w') => rput_any g o.n _ _ B w' (hg0.below hb hB) (hn.below hb hB) (Nat.le_trans hB hb.size) hr hsm hsn)
  have HJOIN := Lib.hid (fun (w' : World) (hb : Below w.heap.size w w') => rjoin_any g o.e _ _ B w' (hg0.below hb hB) (he.below hb hB) (Nat.le_trans hB hb.size) hr hre hsm hse)
  have HDROP := Lib.hid (fun (w' : World) (hb : Below w.heap.size w w') => rdrop_any g o.id _ B w' (hg0.below hb hB) (Nat.le_trans hB hb.size) hr hsm)
  have HCUT := Lib.hid (fun (w' : World) (hb : Below w.heap.size w w') => rcut_any g o.id _ B w' (hg0.below hb hB) (Nat.le_trans hB hb.size) hre hsm)
  obtain ⟨R, hR⟩ : ∃ R, chG g o = R := ⟨_, rfl⟩
  have HR := Lib.hid hR
  unfold chG at hR
  have i0_0 : W0.cell? ⟨w.heap.size, 0, none⟩ = some (.slice na g.nodes.length nc) := HBX.out.cell 0 0 rfl rfl
  have i0_1 : W0.cell? ⟨w.heap.size, 1, none⟩ = some (.slice ea g.edges.length ec) := HBX.out.cell 0 1 rfl rfl
  have i1_0 : W0.cell? ⟨w.heap.size + 1, 0, none⟩ = some (.int .i64 o.kind) := HBX.out.cell 1 0 rfl rfl
  have i1_1 : W0.cell? ⟨w.heap.size + 1, 1, none⟩ = some (.int .i64 o.n.id) := HBX.out.cell 1 1 rfl rfl
  have i1_2 : W0.cell? ⟨w.heap.size + 1, 2, none⟩ = some (.slice la o.n.labels.length lc) := HBX.out.cell 1 2 rfl rfl
  have i1_3 : W0.cell? ⟨w.heap.size + 1, 3, none⟩ = some (.slice ka o.n.keys.length kc) := HBX.out.cell 1 3 rfl rfl
  have i1_4 : W0.cell? ⟨w.heap.size + 1, 4, none⟩ = some (.slice va o.n.vals.length vc) := HBX.out.cell 1 4 rfl rfl
  have i1_5 : W0.cell? ⟨w.heap.size + 1, 5, none⟩ = some (.int .i64 o.e.id) := HBX.out.cell 1 5 rfl rfl
  have i1_6 : W0.cell? ⟨w.heap.size + 1, 6, none⟩ = some (.int .i64 o.e.src) := HBX.out.cell 1 6 rfl rfl
  have i1_7 : W0.cell? ⟨w.heap.size + 1, 7, none⟩ = some (.int .i64 o.e.dst) := HBX.out.cell 1 7 rfl rfl
  have i1_8 : W0.cell? ⟨w.heap.size + 1, 8, none⟩ = some (.string o.e.ty) := HBX.out.cell 1 8 rfl rfl
  have i1_9 : W0.cell? ⟨w.heap.size + 1, 9, none⟩ = some (.slice dka o.e.keys.length dkc) := HBX.out.cell 1 9 rfl rfl
  have i1_10 : W0.cell? ⟨w.heap.size + 1, 10, none⟩ = some (.slice dva o.e.vals.length dvc) := HBX.out.cell 1 10 rfl rfl
  have i1_11 : W0.cell? ⟨w.heap.size + 1, 11, none⟩ = some (.int .i64 o.id) := HBX.out.cell 1 11 rfl rfl
  have i2_0 : W0.cell? ⟨w.heap.size + 2, 0, none⟩ = some (.slice none 0 0) := HBX.out.cell 2 0 rfl rfl
  have i2_1 : W0.cell? ⟨w.heap.size + 2, 1, none⟩ = some (.slice none 0 0) := HBX.out.cell 2 1 rfl rfl
  rw [← hW0] at i0_0 i0_1 i1_0 i1_1 i1_2 i1_3 i1_4 i1_5 i1_6 i1_7 i1_8 i1_9 i1_10 i1_11 i2_0 i2_1
  clear hW0 hg0 hn he ho hr hre hsm hsn hse hB
  rw [HR.out]
  clear HR
  by_cases h0 : o.kind = 0
  · skip
    have hk0 : (o.kind == 0) = true := by rw [h0]; rfl
    rw [if_pos h0] at hR
    have HRR := Lib.hid hR
    clear hR
    clear h0
    go_enter Try.func14, Try.ntmps14
    go_wp2_with fail
    (try rw [show w.heap.size + 1 + 1 = w.heap.size + 2 from rfl])
    rw [HW0.out]
    refine (HPUT.out _ HBX.out.bel).mono ?_
    rintro e w2 ⟨cs2, rfl, hb2, hG2⟩
    obtain ⟨ra, rc, rd, re, rfl, -⟩ := hG2 w2 (Nat.le_refl _) (fun _ _ _ => rfl)
    have HBX2 := Lib.hid (HBX.out.below hb2)
    have HE2 := Lib.hid (show _ ∧ _ from ⟨hb2, hG2⟩)
    clear hb2 hG2 i0_0 i0_1 i1_0 i1_1 i1_2 i1_3 i1_4 i1_5 i1_6 i1_7 i1_8 i1_9 i1_10 i1_11 i2_0 i2_1
    rw [HRR.out] at HE2 ⊢
    have HT2 : Hid (w2.there (w.heap.size + 2) 0 2) := Lib.hid (show Block w2 (w.heap.size + 2) [.slice none 0 0, .slice none 0 0] 25 from HBX2.out.blk 2 _ _ rfl).there
    obtain ⟨we, hwe⟩ : ∃ we, w2.setCells (w.heap.size + 2) 0 (#[.slice ra R.2.nodes.length rc, .slice rd R.2.edges.length re] : Array Value).toList = we := ⟨_, rfl⟩
    have hbe : Block we (w.heap.size + 2) [.slice ra R.2.nodes.length rc, .slice rd R.2.edges.length re] 25 := by rw [← hwe]; exact ((show Block w2 (w.heap.size + 2) [.slice none 0 0, .slice none 0 0] 25 from HBX2.out.blk 2 _ _ rfl).set 0 _).set 1 _
    have q0 : we.cell? ⟨w.heap.size + 2, 0, none⟩ = some (.slice ra R.2.nodes.length rc) := hbe.cell rfl
    have q1 : we.cell? ⟨w.heap.size + 2, 1, none⟩ = some (.slice rd R.2.edges.length re) := hbe.cell rfl
    have HBE : Hid (Below w.heap.size w we) := Lib.hid (by rw [← hwe]; exact ((HBX2.out.put 2 0 rfl (.slice ra R.2.nodes.length rc)).put 2 1 rfl (.slice rd R.2.edges.length re)).bel)
    have HKE : Hid (∀ q, q ≠ w.heap.size + 2 → we.heap[q]? = w2.heap[q]?) := Lib.hid (fun q hq => by rw [← hwe]; exact setW_other _ _ _ _ _ hq)
    have HZE : Hid (we.heap.size = w2.heap.size) := Lib.hid (by rw [← hwe]; exact setW_size _ _ _ _)
    have HWE := Lib.hid hwe
    have HZ0 : Hid (w.heap.size + 3 ≤ W0.heap.size) := Lib.hid (by have := HBX.out.len; simpa using this)
    clear hbe hwe
    go_wp2_with (refine wpList_store_mid rfl 25 _ _ rfl (w.heap.size + 2) 0 #[.slice ra R.2.nodes.length rc, .slice rd R.2.edges.length re] rfl rfl HT2.out (by kernel_rfl) (by simp [Value.oneCell']) ?_; rw [HWE.out])
    refine bodyPost_ret (by simp [results, Try.results14, go_sem, q0, q1]; rfl) rfl ?_
    obtain ⟨hb2, hG2⟩ := HE2.out
    have hz0 := HZ0.out
    refine ⟨_, rfl, HBE.out, fun u h1 h2 => hG2 u (by rw [← HZE.out]; exact h1) (fun q h3 h4 => ?_)⟩
    rw [h2 q (by omega) (by rw [HZE.out]; exact h4)]
    exact HKE.out q (by omega)
  · by_cases h1 : o.kind = 1
    · skip
      have hk0 : (o.kind == 0) = false := by simpa using h0
      have hk1 : (o.kind == 1) = true := by rw [h1]; rfl
      rw [if_neg h0, if_pos h1] at hR
      have HRR := Lib.hid hR
      clear hR
      clear h1
      go_enter Try.func14, Try.ntmps14
      go_wp2_with fail
      (try rw [show w.heap.size + 1 + 1 = w.heap.size + 2 from rfl])
      rw [HW0.out]
      refine (HJOIN.out _ HBX.out.bel).mono ?_
      rintro e w2 ⟨cs2, rfl, hb2, hG2⟩
      obtain ⟨ra, rc, rd, re, rfl, -⟩ := hG2 w2 (Nat.le_refl _) (fun _ _ _ => rfl)
      have HBX2 := Lib.hid (HBX.out.below hb2)
      have HE2 := Lib.hid (show _ ∧ _ from ⟨hb2, hG2⟩)
      clear hb2 hG2 i0_0 i0_1 i1_0 i1_1 i1_2 i1_3 i1_4 i1_5 i1_6 i1_7 i1_8 i1_9 i1_10 i1_11 i2_0 i2_1
      rw [HRR.out] at HE2 ⊢
      have HT2 : Hid (w2.there (w.heap.size + 2) 0 2) := Lib.hid (show Block w2 (w.heap.size + 2) [.slice none 0 0, .slice none 0 0] 25 from HBX2.out.blk 2 _ _ rfl).there
      obtain ⟨we, hwe⟩ : ∃ we, w2.setCells (w.heap.size + 2) 0 (#[.slice ra R.2.nodes.length rc, .slice rd R.2.edges.length re] : Array Value).toList = we := ⟨_, rfl⟩
      have hbe : Block we (w.heap.size + 2) [.slice ra R.2.nodes.length rc, .slice rd R.2.edges.length re] 25 := by rw [← hwe]; exact ((show Block w2 (w.heap.size + 2) [.slice none 0 0, .slice none 0 0] 25 from HBX2.out.blk 2 _ _ rfl).set 0 _).set 1 _
      have q0 : we.cell? ⟨w.heap.size + 2, 0, none⟩ = some (.slice ra R.2.nodes.length rc) := hbe.cell rfl
      have q1 : we.cell? ⟨w.heap.size + 2, 1, none⟩ = some (.slice rd R.2.edges.length re) := hbe.cell rfl
      have HBE : Hid (Below w.heap.size w we) := Lib.hid (by rw [← hwe]; exact ((HBX2.out.put 2 0 rfl (.slice ra R.2.nodes.length rc)).put 2 1 rfl (.slice rd R.2.edges.length re)).bel)
      have HKE : Hid (∀ q, q ≠ w.heap.size + 2 → we.heap[q]? = w2.heap[q]?) := Lib.hid (fun q hq => by rw [← hwe]; exact setW_other _ _ _ _ _ hq)
      have HZE : Hid (we.heap.size = w2.heap.size) := Lib.hid (by rw [← hwe]; exact setW_size _ _ _ _)
      have HWE := Lib.hid hwe
      have HZ0 : Hid (w.heap.size + 3 ≤ W0.heap.size) := Lib.hid (by have := HBX.out.len; simpa using this)
      clear hbe hwe
      go_wp2_with (refine wpList_store_mid rfl 25 _ _ rfl (w.heap.size + 2) 0 #[.slice ra R.2.nodes.length rc, .slice rd R.2.edges.length re] rfl rfl HT2.out (by kernel_rfl) (by simp [Value.oneCell']) ?_; rw [HWE.out])
      refine bodyPost_ret (by simp [results, Try.results14, go_sem, q0, q1]; rfl) rfl ?_
      obtain ⟨hb2, hG2⟩ := HE2.out
      have hz0 := HZ0.out
      refine ⟨_, rfl, HBE.out, fun u h1 h2 => hG2 u (by rw [← HZE.out]; exact h1) (fun q h3 h4 => ?_)⟩
      rw [h2 q (by omega) (by rw [HZE.out]; exact h4)]
      exact HKE.out q (by omega)
    · have hk1 : (o.kind == 1) = false := by simpa using h1
      by_cases h2 : o.kind = 2
      · skip
        have hk0 : (o.kind == 0) = false := by simpa using h0
        have hk2 : (o.kind == 2) = true := by rw [h2]; rfl
        rw [if_neg h0, if_neg h1, if_pos h2] at hR
        have HRR := Lib.hid hR
        clear hR
        clear h2
        go_enter Try.func14, Try.ntmps14
        go_wp2_with fail
        (try rw [show w.heap.size + 1 + 1 = w.heap.size + 2 from rfl])
        rw [HW0.out]
        refine (HDROP.out _ HBX.out.bel).mono ?_
        rintro e w2 ⟨cs2, rfl, hb2, hG2⟩
        obtain ⟨ra, rc, rd, re, rfl, -⟩ := hG2 w2 (Nat.le_refl _) (fun _ _ _ => rfl)
        have HBX2 := Lib.hid (HBX.out.below hb2)
        have HE2 := Lib.hid (show _ ∧ _ from ⟨hb2, hG2⟩)
        clear hb2 hG2 i0_0 i0_1 i1_0 i1_1 i1_2 i1_3 i1_4 i1_5 i1_6 i1_7 i1_8 i1_9 i1_10 i1_11 i2_0 i2_1
        rw [HRR.out] at HE2 ⊢
        have HT2 : Hid (w2.there (w.heap.size + 2) 0 2) := Lib.hid (show Block w2 (w.heap.size + 2) [.slice none 0 0, .slice none 0 0] 25 from HBX2.out.blk 2 _ _ rfl).there
        obtain ⟨we, hwe⟩ : ∃ we, w2.setCells (w.heap.size + 2) 0 (#[.slice ra R.2.nodes.length rc, .slice rd R.2.edges.length re] : Array Value).toList = we := ⟨_, rfl⟩
        have hbe : Block we (w.heap.size + 2) [.slice ra R.2.nodes.length rc, .slice rd R.2.edges.length re] 25 := by rw [← hwe]; exact ((show Block w2 (w.heap.size + 2) [.slice none 0 0, .slice none 0 0] 25 from HBX2.out.blk 2 _ _ rfl).set 0 _).set 1 _
        have q0 : we.cell? ⟨w.heap.size + 2, 0, none⟩ = some (.slice ra R.2.nodes.length rc) := hbe.cell rfl
        have q1 : we.cell? ⟨w.heap.size + 2, 1, none⟩ = some (.slice rd R.2.edges.length re) := hbe.cell rfl
        have HBE : Hid (Below w.heap.size w we) := Lib.hid (by rw [← hwe]; exact ((HBX2.out.put 2 0 rfl (.slice ra R.2.nodes.length rc)).put 2 1 rfl (.slice rd R.2.edges.length re)).bel)
        have HKE : Hid (∀ q, q ≠ w.heap.size + 2 → we.heap[q]? = w2.heap[q]?) := Lib.hid (fun q hq => by rw [← hwe]; exact setW_other _ _ _ _ _ hq)
        have HZE : Hid (we.heap.size = w2.heap.size) := Lib.hid (by rw [← hwe]; exact setW_size _ _ _ _)
        have HWE := Lib.hid hwe
        have HZ0 : Hid (w.heap.size + 3 ≤ W0.heap.size) := Lib.hid (by have := HBX.out.len; simpa using this)
        clear hbe hwe
        go_wp2_with (refine wpList_store_mid rfl 25 _ _ rfl (w.heap.size + 2) 0 #[.slice ra R.2.nodes.length rc, .slice rd R.2.edges.length re] rfl rfl HT2.out (by kernel_rfl) (by simp [Value.oneCell']) ?_; rw [HWE.out])
        refine bodyPost_ret (by simp [results, Try.results14, go_sem, q0, q1]; rfl) rfl ?_
        obtain ⟨hb2, hG2⟩ := HE2.out
        have hz0 := HZ0.out
        refine ⟨_, rfl, HBE.out, fun u h1 h2 => hG2 u (by rw [← HZE.out]; exact h1) (fun q h3 h4 => ?_)⟩
        rw [h2 q (by omega) (by rw [HZE.out]; exact h4)]
        exact HKE.out q (by omega)
      · skip
        have hk0 : (o.kind == 0) = false := by simpa using h0
        have hk2 : (o.kind == 2) = false := by simpa using h2
        rw [if_neg h0, if_neg h1, if_neg h2] at hR
        have HRR := Lib.hid hR
        clear hR
        go_enter Try.func14, Try.ntmps14
        go_wp2_with fail
        (try rw [show w.heap.size + 1 + 1 = w.heap.size + 2 from rfl])
        rw [HW0.out]
        refine (HCUT.out _ HBX.out.bel).mono ?_
        rintro e w2 ⟨cs2, rfl, hb2, hG2⟩
        obtain ⟨ra, rc, rd, re, rfl, -⟩ := hG2 w2 (Nat.le_refl _) (fun _ _ _ => rfl)
        have HBX2 := Lib.hid (HBX.out.below hb2)
        have HE2 := Lib.hid (show _ ∧ _ from ⟨hb2, hG2⟩)
        clear hb2 hG2 i0_0 i0_1 i1_0 i1_1 i1_2 i1_3 i1_4 i1_5 i1_6 i1_7 i1_8 i1_9 i1_10 i1_11 i2_0 i2_1
        rw [HRR.out] at HE2 ⊢
        have HT2 : Hid (w2.there (w.heap.size + 2) 0 2) := Lib.hid (show Block w2 (w.heap.size + 2) [.slice none 0 0, .slice none 0 0] 25 from HBX2.out.blk 2 _ _ rfl).there
        obtain ⟨we, hwe⟩ : ∃ we, w2.setCells (w.heap.size + 2) 0 (#[.slice ra R.2.nodes.length rc, .slice rd R.2.edges.length re] : Array Value).toList = we := ⟨_, rfl⟩
        have hbe : Block we (w.heap.size + 2) [.slice ra R.2.nodes.length rc, .slice rd R.2.edges.length re] 25 := by rw [← hwe]; exact ((show Block w2 (w.heap.size + 2) [.slice none 0 0, .slice none 0 0] 25 from HBX2.out.blk 2 _ _ rfl).set 0 _).set 1 _
        have q0 : we.cell? ⟨w.heap.size + 2, 0, none⟩ = some (.slice ra R.2.nodes.length rc) := hbe.cell rfl
        have q1 : we.cell? ⟨w.heap.size + 2, 1, none⟩ = some (.slice rd R.2.edges.length re) := hbe.cell rfl
        have HBE : Hid (Below w.heap.size w we) := Lib.hid (by rw [← hwe]; exact ((HBX2.out.put 2 0 rfl (.slice ra R.2.nodes.length rc)).put 2 1 rfl (.slice rd R.2.edges.length re)).bel)
        have HKE : Hid (∀ q, q ≠ w.heap.size + 2 → we.heap[q]? = w2.heap[q]?) := Lib.hid (fun q hq => by rw [← hwe]; exact setW_other _ _ _ _ _ hq)
        have HZE : Hid (we.heap.size = w2.heap.size) := Lib.hid (by rw [← hwe]; exact setW_size _ _ _ _)
        have HWE := Lib.hid hwe
        have HZ0 : Hid (w.heap.size + 3 ≤ W0.heap.size) := Lib.hid (by have := HBX.out.len; simpa using this)
        clear hbe hwe
        go_wp2_with (refine wpList_store_mid rfl 25 _ _ rfl (w.heap.size + 2) 0 #[.slice ra R.2.nodes.length rc, .slice rd R.2.edges.length re] rfl rfl HT2.out (by kernel_rfl) (by simp [Value.oneCell']) ?_; rw [HWE.out])
        refine bodyPost_ret (by simp [results, Try.results14, go_sem, q0, q1]; rfl) rfl ?_
        obtain ⟨hb2, hG2⟩ := HE2.out
        have hz0 := HZ0.out
        refine ⟨_, rfl, HBE.out, fun u h1 h2 => hG2 u (by rw [← HZE.out]; exact h1) (fun q h3 h4 => ?_)⟩
        rw [h2 q (by omega) (by rw [HZE.out]; exact h4)]
        exact HKE.out q (by omega)
end Go.Proofs.Ytoakloicjlfaaaa

/- Layer 14: the law GraphChanges as a call. Conditions: what is read is small. -/
namespace Go.Proofs.Ytoakloicjlfaaaa
open Go.RowKit
set_option linter.unusedSimpArgs false
set_option linter.unusedVariables false
set_option maxRecDepth 100000

theorem IsOp.mono {B B' : Nat} {w : World} {cs : List Value} {o : Opt} (h : IsOp B w cs o) (hB : B ≤ B') : IsOp B' w cs o := by
 obtain ⟨cn, ce, h1, h2, h3, h4, h5⟩ := h
 exact ⟨cn, ce, h1, h2, h3, h4.mono hB, h5.mono hB⟩
abbrev S4 := Option Addr × Nat × Option Addr × Nat
def gcells (s : S4) (g : Gt) : List Value := [.slice s.1 g.nodes.length s.2.1, .slice s.2.2.1 g.edges.length s.2.2.2]
/-- Behind W there came a box with a graph of its own. -/
def AtA (W : World) (g : Gt) (s : S4) (b : Nat) (w : World) : Prop :=
 Below W.heap.size W w ∧ Block w b (gcells s g) 25 ∧ W.heap.size ≤ b ∧ ∃ bs, IsGO w (gcells s g) g bs ∧ bs.Nodup ∧ ∀ q ∈ bs, W.heap.size ≤ q ∧ q < w.heap.size ∧ q ≠ b
/-- Behind W there came a box with a graph that can be read. -/
def AtB (W : World) (g : Gt) (s : S4) (b : Nat) (w : World) : Prop :=
 Below W.heap.size W w ∧ Block w b (gcells s g) 25 ∧ W.heap.size ≤ b ∧ IsG w.heap.size w (gcells s g) g
def MidS (A : Option Addr → Nat → Option Addr → Nat → Nat → Act) (R : S4 → Nat → World → Prop) : Exit → Act → World → Prop
 | .normal, a, w => ∃ x y z t b, R (x, y, z, t) b w ∧ a = A x y z t b
 | _, _, _ => False
theorem wp_midS {P : Program} {c : Code} {Q : Exit → Act → World → Prop} {a : Act} {w : World} (A : Option Addr → Nat → Option Addr → Nat → Nat → Act) (R : S4 → Nat → World → Prop)
    (h : c.wp P (MidS A R) a w) (k : ∀ x y z t b w1, R (x, y, z, t) b w1 → Q .normal (A x y z t b) w1) : c.wp P Q a w := by
  refine Code.wp_mono ?_ h
  intro e a w h
  cases e with
  | normal =>
    obtain ⟨x, y, z, t, b, hr, rfl⟩ := h
    exact k x y z t b w hr
  | _ => exact h.elim
theorem box_there {w : World} {b : Nat} {v0 v1 : Value} {t : TypeId} (h : Block w b [v0, v1] t) : w.there b 0 2 := h.there
/-- The call first, the box behind it. -/
theorem AtA.first {W u0 u1 : World} {r : Int × Gt} {s : S4} {bs : List Nat} (h0 : Below W.heap.size W u0) (h : Below u0.heap.size u0 u1) (hO : IsGO u1 (gcells s r.2) r.2 bs) (hn : bs.Nodup) (hr : ∀ b ∈ bs, u0.heap.size ≤ b ∧ b < u1.heap.size) :
    AtA W r.2 s u1.heap.size ((u1.alloc (.cells #[.slice none 0 0, .slice none 0 0] 25)).setCells u1.heap.size 0 (gcells s r.2)) := by
  have hz := h0.size
  have hz1 := h.size
  have hb : Block (u1.alloc (.cells #[.slice none 0 0, .slice none 0 0] 25)) u1.heap.size [.slice none 0 0, .slice none 0 0] 25 := Block.new u1 _ _
  have hk : ∀ q, q < u1.heap.size → ((u1.alloc (.cells #[.slice none 0 0, .slice none 0 0] 25)).setCells u1.heap.size 0 (gcells s r.2)).heap[q]? = u1.heap[q]? := fun q hq => by
    rw [setW_other _ _ _ _ _ (by omega), Below.heap_alloc _ _ _ hq]
  have hsz : ((u1.alloc (.cells #[.slice none 0 0, .slice none 0 0] 25)).setCells u1.heap.size 0 (gcells s r.2)).heap.size = u1.heap.size + 1 := by rw [setW_size]; simp
  refine ⟨?_, (hb.set 0 _).set 1 _, by omega, bs, hO.same (fun q hq => hk q (hr q hq).2), hn, fun q hq => ⟨by have := (hr q hq).1; omega, by rw [hsz]; have := (hr q hq).2; omega, by have := (hr q hq).2; omega⟩⟩
  exact (((h0.trans (h.mono hz)).alloc (by omega) _).setCell (by show W.heap.size ≤ u1.heap.size; omega) _).setCell (by show W.heap.size ≤ u1.heap.size; omega) _
theorem AtA.second {W u0 u1 : World} {r : Int × Gt} {s : S4} {bs : List Nat} (h0 : Below W.heap.size W u0) (h : Below (u0.alloc (.cells #[.slice none 0 0, .slice none 0 0] 25)).heap.size (u0.alloc (.cells #[.slice none 0 0, .slice none 0 0] 25)) u1) (hO : IsGO u1 (gcells s r.2) r.2 bs) (hn : bs.Nodup) (hr : ∀ b ∈ bs, (u0.alloc (.cells #[.slice none 0 0, .slice none 0 0] 25)).heap.size ≤ b ∧ b < u1.heap.size) :
    AtA W r.2 s u0.heap.size (u1.setCells u0.heap.size 0 (gcells s r.2)) := by
  have hz := h0.size
  have hb : Block (u0.alloc (.cells #[.slice none 0 0, .slice none 0 0] 25)) u0.heap.size [.slice none 0 0, .slice none 0 0] 25 := Block.new u0 _ _
  have hb1 := hb.below h hb.lt
  have hz1 : u0.heap.size + 1 ≤ u1.heap.size := by have := h.size; simpa using this
  have hsz : (u1.setCells u0.heap.size 0 (gcells s r.2)).heap.size = u1.heap.size := setW_size _ _ _ _
  have hr' : ∀ b ∈ bs, u0.heap.size + 1 ≤ b ∧ b < u1.heap.size := fun b hq => by have := hr b hq; simpa using this
  refine ⟨?_, (hb1.set 0 _).set 1 _, by omega, bs, hO.same (fun q hq => setW_other _ _ _ _ _ (by have := (hr' q hq).1; omega)), hn, fun q hq => ⟨by have := (hr' q hq).1; omega, by rw [hsz]; exact (hr' q hq).2, by have := (hr' q hq).1; omega⟩⟩
  exact (((h0.alloc (by omega) _).trans (h.mono (by simp; omega))).setCell (by show W.heap.size ≤ u0.heap.size; omega) _).setCell (by show W.heap.size ≤ u0.heap.size; omega) _
theorem AtB.first {W u0 u1 : World} {r : Int × Gt} {s : S4} (h0 : Below W.heap.size W u0) (h : Below u0.heap.size u0 u1) (hO : Lies u0.heap.size u1 (gcells s r.2) r.2) :
    AtB W r.2 s u1.heap.size ((u1.alloc (.cells #[.slice none 0 0, .slice none 0 0] 25)).setCells u1.heap.size 0 (gcells s r.2)) := by
  have hz := h0.size
  have hz1 := h.size
  have hb : Block (u1.alloc (.cells #[.slice none 0 0, .slice none 0 0] 25)) u1.heap.size [.slice none 0 0, .slice none 0 0] 25 := Block.new u1 _ _
  have hk : ∀ q, q < u1.heap.size → ((u1.alloc (.cells #[.slice none 0 0, .slice none 0 0] 25)).setCells u1.heap.size 0 (gcells s r.2)).heap[q]? = u1.heap[q]? := fun q hq => by
    rw [setW_other _ _ _ _ _ (by omega), Below.heap_alloc _ _ _ hq]
  have hsz : ((u1.alloc (.cells #[.slice none 0 0, .slice none 0 0] 25)).setCells u1.heap.size 0 (gcells s r.2)).heap.size = u1.heap.size + 1 := by rw [setW_size]; simp
  refine ⟨?_, (hb.set 0 _).set 1 _, by omega, hO _ (by omega) (fun q _ hq => hk q hq)⟩
  exact (((h0.trans (h.mono hz)).alloc (by omega) _).setCell (by show W.heap.size ≤ u1.heap.size; omega) _).setCell (by show W.heap.size ≤ u1.heap.size; omega) _
theorem AtB.second {W u0 u1 : World} {r : Int × Gt} {s : S4} (h0 : Below W.heap.size W u0) (h : Below (u0.alloc (.cells #[.slice none 0 0, .slice none 0 0] 25)).heap.size (u0.alloc (.cells #[.slice none 0 0, .slice none 0 0] 25)) u1) (hO : Lies (u0.alloc (.cells #[.slice none 0 0, .slice none 0 0] 25)).heap.size u1 (gcells s r.2) r.2) :
    AtB W r.2 s u0.heap.size (u1.setCells u0.heap.size 0 (gcells s r.2)) := by
  have hz := h0.size
  have hb : Block (u0.alloc (.cells #[.slice none 0 0, .slice none 0 0] 25)) u0.heap.size [.slice none 0 0, .slice none 0 0] 25 := Block.new u0 _ _
  have hb1 := hb.below h hb.lt
  have hz1 : u0.heap.size + 1 ≤ u1.heap.size := by have := h.size; simpa using this
  have hsz : (u1.setCells u0.heap.size 0 (gcells s r.2)).heap.size = u1.heap.size := setW_size _ _ _ _
  refine ⟨?_, (hb1.set 0 _).set 1 _, by omega, hO _ (by omega) (fun q hq _ => setW_other _ _ _ _ _ (by simp at hq; omega))⟩
  exact (((h0.alloc (by omega) _).trans (h.mono (by simp; omega))).setCell (by show W.heap.size ≤ u0.heap.size; omega) _).setCell (by show W.heap.size ≤ u0.heap.size; omega) _
theorem wtO_smN {os : List Opt} {j : Nat} {o : Opt} (h : (os.map wtO).sum ≤ 1048576) (ho : os[j]? = some o) : SmN o.n ∧ SmE o.e := by
 have h1 := sum_get wtO ho
 have h2 : wtN o.n + wtE o.e ≤ (os.map wtO).sum := h1
 exact ⟨smN_of (by omega), smE_of (by omega)⟩

set_option maxHeartbeats 64000000 in
theorem gchanges_any (g : Gt) (l : Option Addr) (lcap : Nat) (os : List Opt) (cs : List Value) (w : World) (hg : IsG w.heap.size w cs g) (hl : RowR (IsOp w.heap.size w) 12 w.heap.size w l os) (hlo : SlOk l os.length lcap) (hwg : wtG g ≤ 1048576) (hwo : (os.map wtO).sum ≤ 1048576) :
    Calls Try.prog 4 #[.agg cs.toArray, .slice l os.length lcap] w fun e w' => e = .returned (.bool true) ∧ Below w.heap.size w w' := by
  have hg0 := hg
  obtain ⟨na, nc, ea, ec, rfl, hnz, hez, hN, hE⟩ := hg
  show Calls Try.prog 4 #[.agg #[.slice na g.nodes.length nc, .slice ea g.edges.length ec], .slice l os.length lcap] w _
  have hsm := smG_of hwg
  obtain ⟨W0, hW0⟩ : ∃ W0, w.alloc (.cells #[.slice na g.nodes.length nc, .slice ea g.edges.length ec] 25) = W0 := ⟨_, rfl⟩
  have hb0 : Below w.heap.size w W0 := by rw [← hW0]; exact (Below.refl _ _).alloc (Nat.le_refl _) _
  have hX0 : Block W0 w.heap.size [.slice na g.nodes.length nc, .slice ea g.edges.length ec] 25 := by rw [← hW0]; exact Block.new w _ _
  have HB0 := Lib.hid hb0
  have HX0 := Lib.hid hX0
  have HW0 := Lib.hid hW0
  have HLS := Lib.hid (fun (w' : World) (hb : Below w.heap.size w w') => hl.below hb (Nat.le_refl _) (fun _ _ h => IsOp.below h hb (Nat.le_refl _)))
  have HLO := Lib.hid hlo
  have HWO := Lib.hid hwo
  have HSML := Lib.hid (fun (w' : World) => small_any na ea nc ec g.nodes.length g.edges.length w')
  have HMY := Lib.hid (fun (w' : World) (hb : Below w.heap.size w w') => rmayG_any g _ _ w' (hg0.below hb (Nat.le_refl _)) hb.size)
  have HRC := Lib.hid (fun (w' : World) (hb : Below w.heap.size w w') => rCopyG_any g _ _ w' (hg0.below hb (Nat.le_refl _)) hb.size hsm)
  have HSM := Lib.hid hsm
  obtain ⟨Q, hQ⟩ : ∃ Q : Ending → World → Prop, (fun e w' => e = .returned (.bool true) ∧ Below w.heap.size w w') = Q := ⟨_, rfl⟩
  have HQ : Hid (∀ u, Below w.heap.size w u → Q (.returned (.bool true)) u) := Lib.hid (fun u h => by rw [← hQ]; exact ⟨rfl, h⟩)
  rw [hQ]
  have i0 : W0.cell? ⟨w.heap.size, 0, none⟩ = some (.slice na g.nodes.length nc) := hX0.cell rfl
  have i1 : W0.cell? ⟨w.heap.size, 1, none⟩ = some (.slice ea g.edges.length ec) := hX0.cell rfl
  rw [← hW0] at i0 i1
  have hol : os.length ≤ 9223372036854775807 := by have := hlo.1; omega
  clear hQ hW0 hg0 hN hE hnz hez hsm hwg hX0 hb0 hl hlo hwo
  go_enter Try.func4, Try.ntmps4
  go_wp2_with fail
  rw [HW0.out]
  refine (HSML.out _).mono ?_
  rintro e w1 ⟨rfl, hb1⟩
  have HB1 := Lib.hid (HB0.out.trans (hb1.mono HB0.out.size))
  have HX1 := Lib.hid (HX0.out.below hb1 HX0.out.lt)
  clear hb1 i0 i1
  cases hsml : (decide (g.nodes.length < 60) && decide (g.edges.length < 60)) with
  | false =>
    clear hsml
    go_wp2_with fail
    refine (gworks_any w1).mono ?_
    rintro e wl ⟨rfl, hbl⟩
    have HBL := Lib.hid (HB1.out.trans (hbl.mono HB1.out.size))
    clear hbl
    go_wp2_with fail
    exact HQ.out _ HBL.out
  | true =>
    simp only [Bool.and_eq_true, decide_eq_true_eq] at hsml
    have HLEN := Lib.hid hsml
    clear hsml
    have f0 := HX1.out.cell (i := 0) rfl
    have f1 := HX1.out.cell (i := 1) rfl
    go_wp2_with fail
    refine (HMY.out _ HB1.out).mono ?_
    rintro e w2 ⟨rfl, hb2⟩
    have HB2 := Lib.hid (HB1.out.trans (hb2.mono HB1.out.size))
    have HX2 := Lib.hid (HX1.out.below hb2 HX1.out.lt)
    clear hb2 f0 f1
    cases hmg : mayG g with
    | false =>
      clear hmg
      go_wp2_with fail
      refine (gworks_any w2).mono ?_
      rintro e wl ⟨rfl, hbl⟩
      have HBL := Lib.hid (HB2.out.trans (hbl.mono HB2.out.size))
      clear hbl
      go_wp2_with fail
      exact HQ.out _ HBL.out
    | true =>
      have HMG := Lib.hid (MayG.of hmg)
      clear hmg
      have f0 := HX2.out.cell (i := 0) rfl
      have f1 := HX2.out.cell (i := 1) rfl
      go_wp2_with fail
      refine (HRC.out _ HB2.out).mono ?_
      rintro e w3 ⟨co, so, rfl, hb3, hgo, hso, hro⟩
      clear f0 f1
      obtain ⟨xa, xc, xb, xd, rfl⟩ := hgo.form
      obtain ⟨W4, hW4⟩ : ∃ W, w3.alloc (.cells #[.slice xa g.nodes.length xc, .slice xb g.edges.length xd] 25) = W := ⟨_, rfl⟩
      have hb4 : Below w3.heap.size w3 W4 := by rw [← hW4]; exact (Below.refl _ _).alloc (Nat.le_refl _) _
      have HXB : Hid (Block W4 w3.heap.size [.slice xa g.nodes.length xc, .slice xb g.edges.length xd] 25) := Lib.hid (by rw [← hW4]; exact Block.new w3 _ _)
      have HB3 := Lib.hid (HB2.out.trans (hb3.mono HB2.out.size))
      have HB4 := Lib.hid (HB3.out.trans (hb4.mono HB3.out.size))
      have HXG : Hid (∃ bs, IsGO W4 [.slice xa g.nodes.length xc, .slice xb g.edges.length xd] g bs ∧ ∀ q ∈ bs, q < W4.heap.size ∧ q ≠ w3.heap.size) := Lib.hid ⟨so, hgo.same (fun q hq => hb4.block q (hro q hq).2), fun q hq => ⟨by have := (hro q hq).2; have := hb4.size; omega, by have := (hro q hq).2; omega⟩⟩
      have HOK : Hid (OkC (60 + 0) g) := Lib.hid ⟨HMG.out.riseN, HMG.out.riseE, by have := HLEN.out.1; omega, by have := HLEN.out.2; omega, HSM.out.2.1, HSM.out.2.2⟩
      obtain ⟨bX, hbX⟩ : ∃ b, w3.heap.size = b := ⟨_, rfl⟩
      have HBX : Hid (w.heap.size ≤ bX) := Lib.hid (by rw [← hbX]; exact HB3.out.size)
      rw [hbX] at HXB HXG
      have HW4 := Lib.hid hW4
      clear hgo hso hro hb3 hb4 hW4
      go_wp2_with fail
      rw [HW4.out]
      clear hbX
      go_loopw [6] (fun iv wr => ∃ (j : Nat) (X : Gt) (xa : Option Addr) (xc : Nat) (xb : Option Addr) (xd : Nat), iv = .int .i64 j ∧ j ≤ os.length ∧ j ≤ 30 ∧ Hid (Below w.heap.size w wr) ∧ Hid (Block wr bX [.slice xa X.nodes.length xc, .slice xb X.edges.length xd] 25) ∧ Hid (∃ bs, IsGO wr [.slice xa X.nodes.length xc, .slice xb X.edges.length xd] X bs ∧ ∀ q ∈ bs, q < wr.heap.size ∧ q ≠ bX) ∧ Hid (OkC (60 + j) X)) (fun iv _ => 30 - (intOf iv).toNat)
      case atStart => exact ⟨0, g, xa, xc, xb, xd, rfl, Nat.zero_le _, by omega, HB4, HXB, HXG, HOK⟩
      case round =>
        clear HXB HXG HOK
        obtain ⟨j, X, xa, xc, xb, xd, rfl, hj, hj30, HB, HBK, HG, HK⟩ := hrel
        by_cases hlt : j < os.length
        · by_cases hlt30 : j < 30
          · skip
            have hlt' : (j : Int) < os.length := by omega
            have hlt30' : (j : Int) < 30 := by omega
            have hj0 : (0 : Int) ≤ (j : Int) := by omega
            obtain ⟨o, ho⟩ := get_some hlt
            obtain ⟨hsn, hse⟩ := wtO_smN HWO.out ho
            have HSO := Lib.hid (show _ ∧ _ from ⟨hsn, hse⟩)
            have HOJ := Lib.hid ho
            clear hsn hse ho
            have x0 := HBK.out.cell (i := 0) rfl
            have x1 := HBK.out.cell (i := 1) rfl
            have HXI : Hid (IsG wr.heap.size wr [.slice xa X.nodes.length xc, .slice xb X.edges.length xd] X) := Lib.hid (by obtain ⟨bs, h1, h2⟩ := HG.out; exact h1.isG (fun q hq => (h2 q hq).1))
            have HCP := Lib.hid (rCopyG_any X _ _ wr HXI.out (Nat.le_refl _) (HK.out.sm (by omega)))
            go_wp2_with fail
            refine HCP.out.mono ?_
            rintro e w1 ⟨co, so, rfl, hb1, hgo, hso, hro⟩
            clear x0 x1
            obtain ⟨oa, oc, ob, od, rfl⟩ := hgo.form
            obtain ⟨W2, hW2⟩ : ∃ W, w1.alloc (.cells #[.slice oa X.nodes.length oc, .slice ob X.edges.length od] 25) = W := ⟨_, rfl⟩
            have hb2 : Below w1.heap.size w1 W2 := by rw [← hW2]; exact (Below.refl _ _).alloc (Nat.le_refl _) _
            have HOB : Hid (Block W2 w1.heap.size [.slice oa X.nodes.length oc, .slice ob X.edges.length od] 25) := Lib.hid (by rw [← hW2]; exact Block.new w1 _ _)
            have hb12 : Below wr.heap.size wr W2 := hb1.trans (hb2.mono hb1.size)
            have HB2 := Lib.hid (HB.out.trans (hb12.mono HB.out.size))
            have HBK2 := Lib.hid (HBK.out.below hb12 HBK.out.lt)
            have HXI2 := Lib.hid ((HXI.out.below hb12 (Nat.le_refl _)).mono hb12.size)
            have HOO : Hid (IsGO W2 [.slice oa X.nodes.length oc, .slice ob X.edges.length od] X so ∧ ∀ q ∈ so, bX < q ∧ q < w1.heap.size) := Lib.hid ⟨hgo.same (fun q hq => hb2.block q (hro q hq).2), fun q hq => ⟨by have := (hro q hq).1; have := HBK.out.lt; omega, (hro q hq).2⟩⟩
            have HOG : Hid (IsG W2.heap.size W2 [.slice oa X.nodes.length oc, .slice ob X.edges.length od] X) := Lib.hid ((hgo.same (fun q hq => hb2.block q (hro q hq).2)).isG (fun q hq => by have := (hro q hq).2; have := hb2.size; omega))
            have HG2 : Hid (∃ bs, IsGO W2 [.slice xa X.nodes.length xc, .slice xb X.edges.length xd] X bs ∧ ∀ q ∈ bs, q < W2.heap.size ∧ q ≠ bX) := Lib.hid (by obtain ⟨bs, h1, h2⟩ := HG.out; exact ⟨bs, h1.same (fun q hq => hb12.block q (h2 q hq).1), fun q hq => ⟨by have := (h2 q hq).1; have := hb12.size; omega, (h2 q hq).2⟩⟩)
            obtain ⟨lb, lo, ocs, el, hlB, _, hop, hcell0⟩ := (HLS.out W2 HB2.out).at HOJ.out
            subst el
            obtain ⟨la, lc, ka, kc, va, vc, dka, dkc, dva, dvc, rfl, -, -⟩ := IsOp.form hop
            have HOPU := Lib.hid (fun (u : World) (hb : Below W2.heap.size W2 u) => hop.below (B' := w.heap.size) (hb.mono HB2.out.size) (Nat.le_refl _))
            have HLC := Lib.hid (fun (u : World) (hb : Below W2.heap.size W2 u) (q : Nat) (v : Value) (hv : [.int .i64 o.kind, .int .i64 o.n.id, .slice la o.n.labels.length lc, .slice ka o.n.keys.length kc, .slice va o.n.vals.length vc, .int .i64 o.e.id, .int .i64 o.e.src, .int .i64 o.e.dst, .string o.e.ty, .slice dka o.e.keys.length dkc, .slice dva o.e.vals.length dvc, .int .i64 o.id][q]? = some v) => (show u.cell? ⟨lb, lo + j * 12 + q, none⟩ = some v by rw [hb.cell (by have := HB2.out.size; show lb < _; omega)]; exact hcell0 q v hv))
            have HCH := Lib.hid (fun (u : World) (hb : Below W2.heap.size W2 u) => change_any X o _ _ W2.heap.size u (HOG.out.below hb (Nat.le_refl _)) (IsOp.mono (HOPU.out u hb) HB2.out.size) hb.size HK.out.rn HK.out.re (HK.out.sm (by omega)) HSO.out.1 HSO.out.2)
            obtain ⟨bO, hbO⟩ : ∃ b, w1.heap.size = b := ⟨_, rfl⟩
            rw [hbO] at HOB HOO
            have hbOX : bX < bO := by rw [← hbO]; have := hb1.size; have := HBK.out.lt; omega
            have HW2 := Lib.hid hW2
            have HWZ : Hid (bO < W2.heap.size ∧ bX < bO) := Lib.hid ⟨HOB.out.lt, hbOX⟩
            clear hgo hso hro hb1 hb2 hb12 hW2 hbOX hop hcell0
            go_wp2_with fail
            rw [HW2.out]
            clear hbO HW2 HCP
            have HSS : Hid (∀ u : World, Below W2.heap.size W2 u → (fun u : World => u.cell? ⟨bO, 0, none⟩ = some (.slice oa X.nodes.length oc) ∧ u.cell? ⟨bO, 1, none⟩ = some (.slice ob X.edges.length od) ∧ u.cell? ⟨lb, lo + j * 12, none⟩ = some (.int .i64 o.kind) ∧ u.cell? ⟨lb, lo + j * 12 + 1, none⟩ = some (.int .i64 o.n.id) ∧ u.cell? ⟨lb, lo + j * 12 + 2, none⟩ = some (.slice la o.n.labels.length lc) ∧ u.cell? ⟨lb, lo + j * 12 + 3, none⟩ = some (.slice ka o.n.keys.length kc) ∧ u.cell? ⟨lb, lo + j * 12 + 4, none⟩ = some (.slice va o.n.vals.length vc) ∧ u.cell? ⟨lb, lo + j * 12 + 5, none⟩ = some (.int .i64 o.e.id) ∧ u.cell? ⟨lb, lo + j * 12 + 6, none⟩ = some (.int .i64 o.e.src) ∧ u.cell? ⟨lb, lo + j * 12 + 7, none⟩ = some (.int .i64 o.e.dst) ∧ u.cell? ⟨lb, lo + j * 12 + 8, none⟩ = some (.string o.e.ty) ∧ u.cell? ⟨lb, lo + j * 12 + 9, none⟩ = some (.slice dka o.e.keys.length dkc) ∧ u.cell? ⟨lb, lo + j * 12 + 10, none⟩ = some (.slice dva o.e.vals.length dvc) ∧ u.cell? ⟨lb, lo + j * 12 + 11, none⟩ = some (.int .i64 o.id)) u) := Lib.hid (fun u hb => ⟨(HOB.out.below hb HOB.out.lt).cell rfl, (HOB.out.below hb HOB.out.lt).cell rfl, HLC.out u hb 0 _ rfl, HLC.out u hb 1 _ rfl, HLC.out u hb 2 _ rfl, HLC.out u hb 3 _ rfl, HLC.out u hb 4 _ rfl, HLC.out u hb 5 _ rfl, HLC.out u hb 6 _ rfl, HLC.out u hb 7 _ rfl, HLC.out u hb 8 _ rfl, HLC.out u hb 9 _ rfl, HLC.out u hb 10 _ rfl, HLC.out u hb 11 _ rfl⟩)
            apply wp_midS (R := fun s b u => AtA W2 (chG X o).2 s b u)
            case h =>
              refine wp_region_noPanic ?_
              refine wp_region_J (S := fun u : World => u.cell? ⟨bO, 0, none⟩ = some (.slice oa X.nodes.length oc) ∧ u.cell? ⟨bO, 1, none⟩ = some (.slice ob X.edges.length od) ∧ u.cell? ⟨lb, lo + j * 12, none⟩ = some (.int .i64 o.kind) ∧ u.cell? ⟨lb, lo + j * 12 + 1, none⟩ = some (.int .i64 o.n.id) ∧ u.cell? ⟨lb, lo + j * 12 + 2, none⟩ = some (.slice la o.n.labels.length lc) ∧ u.cell? ⟨lb, lo + j * 12 + 3, none⟩ = some (.slice ka o.n.keys.length kc) ∧ u.cell? ⟨lb, lo + j * 12 + 4, none⟩ = some (.slice va o.n.vals.length vc) ∧ u.cell? ⟨lb, lo + j * 12 + 5, none⟩ = some (.int .i64 o.e.id) ∧ u.cell? ⟨lb, lo + j * 12 + 6, none⟩ = some (.int .i64 o.e.src) ∧ u.cell? ⟨lb, lo + j * 12 + 7, none⟩ = some (.int .i64 o.e.dst) ∧ u.cell? ⟨lb, lo + j * 12 + 8, none⟩ = some (.string o.e.ty) ∧ u.cell? ⟨lb, lo + j * 12 + 9, none⟩ = some (.slice dka o.e.keys.length dkc) ∧ u.cell? ⟨lb, lo + j * 12 + 10, none⟩ = some (.slice dva o.e.vals.length dvc) ∧ u.cell? ⟨lb, lo + j * 12 + 11, none⟩ = some (.int .i64 o.id)) (fun j => j == 10) (by kernel_rfl) ?_
              obtain ⟨u0, hu0⟩ : ∃ u, W2.drew = u := ⟨_, rfl⟩
              have h00 : Below W2.heap.size W2 u0 := by rw [← hu0]; exact (Below.refl _ _).drew
              have H00 := Lib.hid h00
              rw [hu0]
              clear hu0
              have hHeld : (fun u : World => u.cell? ⟨bO, 0, none⟩ = some (.slice oa X.nodes.length oc) ∧ u.cell? ⟨bO, 1, none⟩ = some (.slice ob X.edges.length od) ∧ u.cell? ⟨lb, lo + j * 12, none⟩ = some (.int .i64 o.kind) ∧ u.cell? ⟨lb, lo + j * 12 + 1, none⟩ = some (.int .i64 o.n.id) ∧ u.cell? ⟨lb, lo + j * 12 + 2, none⟩ = some (.slice la o.n.labels.length lc) ∧ u.cell? ⟨lb, lo + j * 12 + 3, none⟩ = some (.slice ka o.n.keys.length kc) ∧ u.cell? ⟨lb, lo + j * 12 + 4, none⟩ = some (.slice va o.n.vals.length vc) ∧ u.cell? ⟨lb, lo + j * 12 + 5, none⟩ = some (.int .i64 o.e.id) ∧ u.cell? ⟨lb, lo + j * 12 + 6, none⟩ = some (.int .i64 o.e.src) ∧ u.cell? ⟨lb, lo + j * 12 + 7, none⟩ = some (.int .i64 o.e.dst) ∧ u.cell? ⟨lb, lo + j * 12 + 8, none⟩ = some (.string o.e.ty) ∧ u.cell? ⟨lb, lo + j * 12 + 9, none⟩ = some (.slice dka o.e.keys.length dkc) ∧ u.cell? ⟨lb, lo + j * 12 + 10, none⟩ = some (.slice dva o.e.vals.length dvc) ∧ u.cell? ⟨lb, lo + j * 12 + 11, none⟩ = some (.int .i64 o.id)) u0 := HSS.out u0 h00
              clear h00
              refine wpAnyJ_take (i := 0) (v := ?_) rfl (by kernel_rfl) (by kernel_rfl) (by kernel_rfl) (by kernel_rfl) (fun _ _ _ h => h) (Or.inl ⟨by rfl, ?_⟩) (by assumption) ?_
              rotate_left
              focus ((intro w hSw; (try dsimp only at hSw); go_simp); try with_reducible rfl)
              (try simp only [Act.put, List.getElem_toArray, List.getElem_cons_zero, List.getElem_cons_succ, List.setIfInBounds_toArray, List.set_cons_zero, List.set_cons_succ])
              refine wpAnyJ_take0 (i := 1) (v := ?_) rfl (by kernel_rfl) (by kernel_rfl) (by kernel_rfl) (fun _ _ _ h => h) (Or.inl ⟨by rfl, ?_⟩) ?_
              rotate_left
              focus ((intro w hSw; clear hSw; go_simp); try with_reducible rfl)
              (try simp only [Act.put, List.getElem_toArray, List.getElem_cons_zero, List.getElem_cons_succ, List.setIfInBounds_toArray, List.set_cons_zero, List.set_cons_succ])
              refine wpAnyJ_take0 (i := 2) (v := ?_) rfl (by kernel_rfl) (by kernel_rfl) (by kernel_rfl) (fun _ _ _ h => h) (Or.inl ⟨by rfl, ?_⟩) ?_
              rotate_left
              focus ((intro w hSw; clear hSw; go_simp); try with_reducible rfl)
              (try simp only [Act.put, List.getElem_toArray, List.getElem_cons_zero, List.getElem_cons_succ, List.setIfInBounds_toArray, List.set_cons_zero, List.set_cons_succ])
              refine wpAnyJ_take0 (i := 3) (v := ?_) rfl (by kernel_rfl) (by kernel_rfl) (by kernel_rfl) (fun _ _ _ h => h) (Or.inl ⟨by rfl, ?_⟩) ?_
              rotate_left
              focus ((intro w hSw; clear hSw; go_simp); try with_reducible rfl)
              (try simp only [Act.put, List.getElem_toArray, List.getElem_cons_zero, List.getElem_cons_succ, List.setIfInBounds_toArray, List.set_cons_zero, List.set_cons_succ])
              refine wpAnyJ_take (i := 4) (v := ?_) rfl (by kernel_rfl) (by kernel_rfl) (by kernel_rfl) (by kernel_rfl) (fun _ _ _ h => h) (Or.inl ⟨by rfl, ?_⟩) (by assumption) ?_
              rotate_left
              focus ((intro w hSw; (try dsimp only at hSw); go_simp); try with_reducible rfl)
              (try simp only [Act.put, List.getElem_toArray, List.getElem_cons_zero, List.getElem_cons_succ, List.setIfInBounds_toArray, List.set_cons_zero, List.set_cons_succ])
              refine wpAnyJ_ready (rs := [5, 9]) (by kernel_rfl) (by simp) ?_
              refine AllReadyJ.cons rfl (fun KK hKK => ?_) (AllReadyJ.cons rfl (fun KK hKK => ?_) AllReadyJ.nil)
              · skip
                go_simp
                go_at_call 13
                refine (HCH.out (u0) (H00.out)).mono ?_
                rintro e u1 ⟨cs1, bs1, rfl, hb1, hG1, hn1, hr1⟩
                obtain ⟨ra, rc, rd, re, rfl⟩ := hG1.form
                have hH2 : (fun u : World => u.cell? ⟨bO, 0, none⟩ = some (.slice oa X.nodes.length oc) ∧ u.cell? ⟨bO, 1, none⟩ = some (.slice ob X.edges.length od) ∧ u.cell? ⟨lb, lo + j * 12, none⟩ = some (.int .i64 o.kind) ∧ u.cell? ⟨lb, lo + j * 12 + 1, none⟩ = some (.int .i64 o.n.id) ∧ u.cell? ⟨lb, lo + j * 12 + 2, none⟩ = some (.slice la o.n.labels.length lc) ∧ u.cell? ⟨lb, lo + j * 12 + 3, none⟩ = some (.slice ka o.n.keys.length kc) ∧ u.cell? ⟨lb, lo + j * 12 + 4, none⟩ = some (.slice va o.n.vals.length vc) ∧ u.cell? ⟨lb, lo + j * 12 + 5, none⟩ = some (.int .i64 o.e.id) ∧ u.cell? ⟨lb, lo + j * 12 + 6, none⟩ = some (.int .i64 o.e.src) ∧ u.cell? ⟨lb, lo + j * 12 + 7, none⟩ = some (.int .i64 o.e.dst) ∧ u.cell? ⟨lb, lo + j * 12 + 8, none⟩ = some (.string o.e.ty) ∧ u.cell? ⟨lb, lo + j * 12 + 9, none⟩ = some (.slice dka o.e.keys.length dkc) ∧ u.cell? ⟨lb, lo + j * 12 + 10, none⟩ = some (.slice dva o.e.vals.length dvc) ∧ u.cell? ⟨lb, lo + j * 12 + 11, none⟩ = some (.int .i64 o.id)) u1 := HSS.out u1 ((H00.out).trans (hb1.mono (H00.out).size))
                refine hKK _ _ (fun _ _ => hH2) ?_
                clear hKK KK hHeld
                have hHeld := hH2
                clear hH2
                (try simp only [Act.put, List.getElem_toArray, List.getElem_cons_zero, List.getElem_cons_succ, List.setIfInBounds_toArray, List.set_cons_zero, List.set_cons_succ])
                refine wpAnyJ_take0 (i := 6) (v := ?_) rfl (by kernel_rfl) (by kernel_rfl) (by kernel_rfl) (fun _ _ _ h => h) (Or.inl ⟨by rfl, ?_⟩) ?_
                rotate_left
                focus ((intro w hSw; clear hSw; go_simp); try with_reducible rfl)
                (try simp only [Act.put, List.getElem_toArray, List.getElem_cons_zero, List.getElem_cons_succ, List.setIfInBounds_toArray, List.set_cons_zero, List.set_cons_succ])
                refine wpAnyJ_take0 (i := 7) (v := ?_) rfl (by kernel_rfl) (by kernel_rfl) (by kernel_rfl) (fun _ _ _ h => h) (Or.inl ⟨by rfl, ?_⟩) ?_
                rotate_left
                focus ((intro w hSw; clear hSw; go_simp); try with_reducible rfl)
                (try simp only [Act.put, List.getElem_toArray, List.getElem_cons_zero, List.getElem_cons_succ, List.setIfInBounds_toArray, List.set_cons_zero, List.set_cons_succ])
                refine wpAnyJ_take0 (i := 8) (v := ?_) rfl (by kernel_rfl) (by kernel_rfl) (by kernel_rfl) (fun _ _ _ h => h) (Or.inl ⟨by rfl, ?_⟩) ?_
                rotate_left
                focus ((intro w hSw; clear hSw; go_simp); try with_reducible rfl)
                (try simp only [Act.put, List.getElem_toArray, List.getElem_cons_zero, List.getElem_cons_succ, List.setIfInBounds_toArray, List.set_cons_zero, List.set_cons_succ])
                refine wpAnyJ_ready (rs := [9]) (by kernel_rfl) (by simp) ?_
                refine AllReadyJ.cons rfl (fun KK hKK => ?_) AllReadyJ.nil
                go_simp
                have hH2 : (fun u : World => u.cell? ⟨bO, 0, none⟩ = some (.slice oa X.nodes.length oc) ∧ u.cell? ⟨bO, 1, none⟩ = some (.slice ob X.edges.length od) ∧ u.cell? ⟨lb, lo + j * 12, none⟩ = some (.int .i64 o.kind) ∧ u.cell? ⟨lb, lo + j * 12 + 1, none⟩ = some (.int .i64 o.n.id) ∧ u.cell? ⟨lb, lo + j * 12 + 2, none⟩ = some (.slice la o.n.labels.length lc) ∧ u.cell? ⟨lb, lo + j * 12 + 3, none⟩ = some (.slice ka o.n.keys.length kc) ∧ u.cell? ⟨lb, lo + j * 12 + 4, none⟩ = some (.slice va o.n.vals.length vc) ∧ u.cell? ⟨lb, lo + j * 12 + 5, none⟩ = some (.int .i64 o.e.id) ∧ u.cell? ⟨lb, lo + j * 12 + 6, none⟩ = some (.int .i64 o.e.src) ∧ u.cell? ⟨lb, lo + j * 12 + 7, none⟩ = some (.int .i64 o.e.dst) ∧ u.cell? ⟨lb, lo + j * 12 + 8, none⟩ = some (.string o.e.ty) ∧ u.cell? ⟨lb, lo + j * 12 + 9, none⟩ = some (.slice dka o.e.keys.length dkc) ∧ u.cell? ⟨lb, lo + j * 12 + 10, none⟩ = some (.slice dva o.e.vals.length dvc) ∧ u.cell? ⟨lb, lo + j * 12 + 11, none⟩ = some (.int .i64 o.id)) (u1.alloc (.cells #[.slice none 0 0, .slice none 0 0] 25)) := HSS.out (u1.alloc (.cells #[.slice none 0 0, .slice none 0 0] 25)) ((H00.out.trans (hb1.mono H00.out.size)).alloc (Nat.le_trans H00.out.size hb1.size) _)
                refine hKK _ _ (fun _ _ => hH2) ?_
                clear hKK KK hHeld
                have hHeld := hH2
                clear hH2
                (try simp only [Act.put, List.getElem_toArray, List.getElem_cons_zero, List.getElem_cons_succ, List.setIfInBounds_toArray, List.set_cons_zero, List.set_cons_succ])
                refine wpAnyJ_ready (rs := [10]) (by kernel_rfl) (by simp) ?_
                refine AllReadyJ.cons rfl (fun KK hKK => ?_) AllReadyJ.nil
                have HT9 : Hid (World.there (u1.alloc (.cells #[.slice none 0 0, .slice none 0 0] 25)) (u1.heap.size) 0 2) := Lib.hid (box_there (Block.new u1 _ _))
                refine step_store_mid (by rfl) 25 _ _ (by rfl) (u1.heap.size) 0 #[.slice ra (chG X o).2.nodes.length rc, .slice rd (chG X o).2.edges.length re] (by rfl) (by rfl) HT9.out (by kernel_rfl) (by simp [Value.oneCell']) ?_
                refine hKK _ _ (fun h => absurd h (by decide)) ?_
                clear hKK KK hHeld HT9
                (try simp only [Act.put, List.getElem_toArray, List.getElem_cons_zero, List.getElem_cons_succ, List.setIfInBounds_toArray, List.set_cons_zero, List.set_cons_succ])
                refine wpAnyJ_take0 (i := 11) (v := ?_) rfl (by kernel_rfl) (by kernel_rfl) (by kernel_rfl) (fun _ _ _ h => h) (Or.inl ⟨by rfl, ?_⟩) ?_
                rotate_left
                focus ((intro w hSw; clear hSw; go_simp); try with_reducible rfl)
                (try simp only [Act.put, List.getElem_toArray, List.getElem_cons_zero, List.getElem_cons_succ, List.setIfInBounds_toArray, List.set_cons_zero, List.set_cons_succ])
                refine wpAnyJ_done (by kernel_rfl) ?_ _
                refine NoPanic.normal ?_
                have hlem := AtA.first (s := (ra, rc, rd, re)) H00.out hb1 hG1 hn1 hr1
                obtain ⟨bb, hbb⟩ : ∃ x, u1.heap.size = x := ⟨_, rfl⟩
                rw [hbb] at hlem ⊢
                exact ⟨ra, rc, rd, re, bb, hlem, rfl⟩
              · skip
                go_simp
                have hH2 : (fun u : World => u.cell? ⟨bO, 0, none⟩ = some (.slice oa X.nodes.length oc) ∧ u.cell? ⟨bO, 1, none⟩ = some (.slice ob X.edges.length od) ∧ u.cell? ⟨lb, lo + j * 12, none⟩ = some (.int .i64 o.kind) ∧ u.cell? ⟨lb, lo + j * 12 + 1, none⟩ = some (.int .i64 o.n.id) ∧ u.cell? ⟨lb, lo + j * 12 + 2, none⟩ = some (.slice la o.n.labels.length lc) ∧ u.cell? ⟨lb, lo + j * 12 + 3, none⟩ = some (.slice ka o.n.keys.length kc) ∧ u.cell? ⟨lb, lo + j * 12 + 4, none⟩ = some (.slice va o.n.vals.length vc) ∧ u.cell? ⟨lb, lo + j * 12 + 5, none⟩ = some (.int .i64 o.e.id) ∧ u.cell? ⟨lb, lo + j * 12 + 6, none⟩ = some (.int .i64 o.e.src) ∧ u.cell? ⟨lb, lo + j * 12 + 7, none⟩ = some (.int .i64 o.e.dst) ∧ u.cell? ⟨lb, lo + j * 12 + 8, none⟩ = some (.string o.e.ty) ∧ u.cell? ⟨lb, lo + j * 12 + 9, none⟩ = some (.slice dka o.e.keys.length dkc) ∧ u.cell? ⟨lb, lo + j * 12 + 10, none⟩ = some (.slice dva o.e.vals.length dvc) ∧ u.cell? ⟨lb, lo + j * 12 + 11, none⟩ = some (.int .i64 o.id)) (u0.alloc (.cells #[.slice none 0 0, .slice none 0 0] 25)) := HSS.out (u0.alloc (.cells #[.slice none 0 0, .slice none 0 0] 25)) (H00.out.alloc H00.out.size _)
                refine hKK _ _ (fun _ _ => hH2) ?_
                clear hKK KK hHeld
                have hHeld := hH2
                clear hH2
                (try simp only [Act.put, List.getElem_toArray, List.getElem_cons_zero, List.getElem_cons_succ, List.setIfInBounds_toArray, List.set_cons_zero, List.set_cons_succ])
                refine wpAnyJ_ready (rs := [5]) (by kernel_rfl) (by simp) ?_
                refine AllReadyJ.cons rfl (fun KK hKK => ?_) AllReadyJ.nil
                go_simp
                go_at_call 13
                refine (HCH.out (u0.alloc (.cells #[.slice none 0 0, .slice none 0 0] 25)) (H00.out.alloc H00.out.size _)).mono ?_
                rintro e u1 ⟨cs1, bs1, rfl, hb1, hG1, hn1, hr1⟩
                obtain ⟨ra, rc, rd, re, rfl⟩ := hG1.form
                have hH2 : (fun u : World => u.cell? ⟨bO, 0, none⟩ = some (.slice oa X.nodes.length oc) ∧ u.cell? ⟨bO, 1, none⟩ = some (.slice ob X.edges.length od) ∧ u.cell? ⟨lb, lo + j * 12, none⟩ = some (.int .i64 o.kind) ∧ u.cell? ⟨lb, lo + j * 12 + 1, none⟩ = some (.int .i64 o.n.id) ∧ u.cell? ⟨lb, lo + j * 12 + 2, none⟩ = some (.slice la o.n.labels.length lc) ∧ u.cell? ⟨lb, lo + j * 12 + 3, none⟩ = some (.slice ka o.n.keys.length kc) ∧ u.cell? ⟨lb, lo + j * 12 + 4, none⟩ = some (.slice va o.n.vals.length vc) ∧ u.cell? ⟨lb, lo + j * 12 + 5, none⟩ = some (.int .i64 o.e.id) ∧ u.cell? ⟨lb, lo + j * 12 + 6, none⟩ = some (.int .i64 o.e.src) ∧ u.cell? ⟨lb, lo + j * 12 + 7, none⟩ = some (.int .i64 o.e.dst) ∧ u.cell? ⟨lb, lo + j * 12 + 8, none⟩ = some (.string o.e.ty) ∧ u.cell? ⟨lb, lo + j * 12 + 9, none⟩ = some (.slice dka o.e.keys.length dkc) ∧ u.cell? ⟨lb, lo + j * 12 + 10, none⟩ = some (.slice dva o.e.vals.length dvc) ∧ u.cell? ⟨lb, lo + j * 12 + 11, none⟩ = some (.int .i64 o.id)) u1 := HSS.out u1 ((H00.out.alloc H00.out.size _).trans (hb1.mono (H00.out.alloc H00.out.size _).size))
                refine hKK _ _ (fun _ _ => hH2) ?_
                clear hKK KK hHeld
                have hHeld := hH2
                clear hH2
                (try simp only [Act.put, List.getElem_toArray, List.getElem_cons_zero, List.getElem_cons_succ, List.setIfInBounds_toArray, List.set_cons_zero, List.set_cons_succ])
                refine wpAnyJ_take0 (i := 6) (v := ?_) rfl (by kernel_rfl) (by kernel_rfl) (by kernel_rfl) (fun _ _ _ h => h) (Or.inl ⟨by rfl, ?_⟩) ?_
                rotate_left
                focus ((intro w hSw; clear hSw; go_simp); try with_reducible rfl)
                (try simp only [Act.put, List.getElem_toArray, List.getElem_cons_zero, List.getElem_cons_succ, List.setIfInBounds_toArray, List.set_cons_zero, List.set_cons_succ])
                refine wpAnyJ_take0 (i := 7) (v := ?_) rfl (by kernel_rfl) (by kernel_rfl) (by kernel_rfl) (fun _ _ _ h => h) (Or.inl ⟨by rfl, ?_⟩) ?_
                rotate_left
                focus ((intro w hSw; clear hSw; go_simp); try with_reducible rfl)
                (try simp only [Act.put, List.getElem_toArray, List.getElem_cons_zero, List.getElem_cons_succ, List.setIfInBounds_toArray, List.set_cons_zero, List.set_cons_succ])
                refine wpAnyJ_take0 (i := 8) (v := ?_) rfl (by kernel_rfl) (by kernel_rfl) (by kernel_rfl) (fun _ _ _ h => h) (Or.inl ⟨by rfl, ?_⟩) ?_
                rotate_left
                focus ((intro w hSw; clear hSw; go_simp); try with_reducible rfl)
                (try simp only [Act.put, List.getElem_toArray, List.getElem_cons_zero, List.getElem_cons_succ, List.setIfInBounds_toArray, List.set_cons_zero, List.set_cons_succ])
                refine wpAnyJ_ready (rs := [10]) (by kernel_rfl) (by simp) ?_
                refine AllReadyJ.cons rfl (fun KK hKK => ?_) AllReadyJ.nil
                have HT9 : Hid (World.there (u1) (u0.heap.size) 0 2) := Lib.hid (box_there ((Block.new u0 _ _).below hb1 (by simp)))
                refine step_store_mid (by rfl) 25 _ _ (by rfl) (u0.heap.size) 0 #[.slice ra (chG X o).2.nodes.length rc, .slice rd (chG X o).2.edges.length re] (by rfl) (by rfl) HT9.out (by kernel_rfl) (by simp [Value.oneCell']) ?_
                refine hKK _ _ (fun h => absurd h (by decide)) ?_
                clear hKK KK hHeld HT9
                (try simp only [Act.put, List.getElem_toArray, List.getElem_cons_zero, List.getElem_cons_succ, List.setIfInBounds_toArray, List.set_cons_zero, List.set_cons_succ])
                refine wpAnyJ_take0 (i := 11) (v := ?_) rfl (by kernel_rfl) (by kernel_rfl) (by kernel_rfl) (fun _ _ _ h => h) (Or.inl ⟨by rfl, ?_⟩) ?_
                rotate_left
                focus ((intro w hSw; clear hSw; go_simp); try with_reducible rfl)
                (try simp only [Act.put, List.getElem_toArray, List.getElem_cons_zero, List.getElem_cons_succ, List.setIfInBounds_toArray, List.set_cons_zero, List.set_cons_succ])
                refine wpAnyJ_done (by kernel_rfl) ?_ _
                refine NoPanic.normal ?_
                have hlem := AtA.second (s := (ra, rc, rd, re)) H00.out hb1 hG1 hn1 hr1
                obtain ⟨bb, hbb⟩ : ∃ x, u0.heap.size = x := ⟨_, rfl⟩
                rw [hbb] at hlem ⊢
                exact ⟨ra, rc, rd, re, bb, hlem, rfl⟩
            rintro ra rc rd re bA w4 ⟨hb4, hA4, hge4, sa, hga, hna, hra⟩
            have HA := Lib.hid (show _ ∧ _ ∧ _ ∧ _ from ⟨hge4, hga, hna, hra⟩)
            have HA4 : Hid (Block w4 bA [.slice ra (chG X o).2.nodes.length rc, .slice rd (chG X o).2.edges.length re] 25) := Lib.hid hA4
            have HB24 := Lib.hid hb4
            have HB4' := Lib.hid (HB2.out.trans (hb4.mono HB2.out.size))
            have HBK4 := Lib.hid (HBK2.out.below hb4 HBK2.out.lt)
            have HXI4 := Lib.hid ((HXI2.out.below hb4 (Nat.le_refl _)).mono hb4.size)
            have HSH := Lib.hid (fun (u : World) (hb : Below w4.heap.size w4 u) => should_any X o _ _ w4.heap.size u (HXI4.out.below hb (Nat.le_refl _)) (IsOp.mono (HOPU.out u (hb4.trans (hb.mono hb4.size))) HB4'.out.size) hb.size HK.out.rn HK.out.re (HK.out.sm (by omega)) HSO.out.1 HSO.out.2)
            have HSS : Hid (∀ u : World, Below w4.heap.size w4 u → (fun u : World => u.cell? ⟨bX, 0, none⟩ = some (.slice xa X.nodes.length xc) ∧ u.cell? ⟨bX, 1, none⟩ = some (.slice xb X.edges.length xd) ∧ u.cell? ⟨lb, lo + j * 12, none⟩ = some (.int .i64 o.kind) ∧ u.cell? ⟨lb, lo + j * 12 + 1, none⟩ = some (.int .i64 o.n.id) ∧ u.cell? ⟨lb, lo + j * 12 + 2, none⟩ = some (.slice la o.n.labels.length lc) ∧ u.cell? ⟨lb, lo + j * 12 + 3, none⟩ = some (.slice ka o.n.keys.length kc) ∧ u.cell? ⟨lb, lo + j * 12 + 4, none⟩ = some (.slice va o.n.vals.length vc) ∧ u.cell? ⟨lb, lo + j * 12 + 5, none⟩ = some (.int .i64 o.e.id) ∧ u.cell? ⟨lb, lo + j * 12 + 6, none⟩ = some (.int .i64 o.e.src) ∧ u.cell? ⟨lb, lo + j * 12 + 7, none⟩ = some (.int .i64 o.e.dst) ∧ u.cell? ⟨lb, lo + j * 12 + 8, none⟩ = some (.string o.e.ty) ∧ u.cell? ⟨lb, lo + j * 12 + 9, none⟩ = some (.slice dka o.e.keys.length dkc) ∧ u.cell? ⟨lb, lo + j * 12 + 10, none⟩ = some (.slice dva o.e.vals.length dvc) ∧ u.cell? ⟨lb, lo + j * 12 + 11, none⟩ = some (.int .i64 o.id)) u) := Lib.hid (fun u hb => ⟨(HBK4.out.below hb HBK4.out.lt).cell rfl, (HBK4.out.below hb HBK4.out.lt).cell rfl, HLC.out u (hb4.trans (hb.mono hb4.size)) 0 _ rfl, HLC.out u (hb4.trans (hb.mono hb4.size)) 1 _ rfl, HLC.out u (hb4.trans (hb.mono hb4.size)) 2 _ rfl, HLC.out u (hb4.trans (hb.mono hb4.size)) 3 _ rfl, HLC.out u (hb4.trans (hb.mono hb4.size)) 4 _ rfl, HLC.out u (hb4.trans (hb.mono hb4.size)) 5 _ rfl, HLC.out u (hb4.trans (hb.mono hb4.size)) 6 _ rfl, HLC.out u (hb4.trans (hb.mono hb4.size)) 7 _ rfl, HLC.out u (hb4.trans (hb.mono hb4.size)) 8 _ rfl, HLC.out u (hb4.trans (hb.mono hb4.size)) 9 _ rfl, HLC.out u (hb4.trans (hb.mono hb4.size)) 10 _ rfl, HLC.out u (hb4.trans (hb.mono hb4.size)) 11 _ rfl⟩)
            clear hb4 hA4 hge4 hga hna hra
            go_wp2_with fail
            apply wp_midS (R := fun s b u => AtB w4 (chG X o).2 s b u)
            case h =>
              refine wp_region_noPanic ?_
              refine wp_region_J (S := fun u : World => u.cell? ⟨bX, 0, none⟩ = some (.slice xa X.nodes.length xc) ∧ u.cell? ⟨bX, 1, none⟩ = some (.slice xb X.edges.length xd) ∧ u.cell? ⟨lb, lo + j * 12, none⟩ = some (.int .i64 o.kind) ∧ u.cell? ⟨lb, lo + j * 12 + 1, none⟩ = some (.int .i64 o.n.id) ∧ u.cell? ⟨lb, lo + j * 12 + 2, none⟩ = some (.slice la o.n.labels.length lc) ∧ u.cell? ⟨lb, lo + j * 12 + 3, none⟩ = some (.slice ka o.n.keys.length kc) ∧ u.cell? ⟨lb, lo + j * 12 + 4, none⟩ = some (.slice va o.n.vals.length vc) ∧ u.cell? ⟨lb, lo + j * 12 + 5, none⟩ = some (.int .i64 o.e.id) ∧ u.cell? ⟨lb, lo + j * 12 + 6, none⟩ = some (.int .i64 o.e.src) ∧ u.cell? ⟨lb, lo + j * 12 + 7, none⟩ = some (.int .i64 o.e.dst) ∧ u.cell? ⟨lb, lo + j * 12 + 8, none⟩ = some (.string o.e.ty) ∧ u.cell? ⟨lb, lo + j * 12 + 9, none⟩ = some (.slice dka o.e.keys.length dkc) ∧ u.cell? ⟨lb, lo + j * 12 + 10, none⟩ = some (.slice dva o.e.vals.length dvc) ∧ u.cell? ⟨lb, lo + j * 12 + 11, none⟩ = some (.int .i64 o.id)) (fun j => j == 10) (by kernel_rfl) ?_
              obtain ⟨u0, hu0⟩ : ∃ u, w4.drew = u := ⟨_, rfl⟩
              have h00 : Below w4.heap.size w4 u0 := by rw [← hu0]; exact (Below.refl _ _).drew
              have H00 := Lib.hid h00
              rw [hu0]
              clear hu0
              have hHeld : (fun u : World => u.cell? ⟨bX, 0, none⟩ = some (.slice xa X.nodes.length xc) ∧ u.cell? ⟨bX, 1, none⟩ = some (.slice xb X.edges.length xd) ∧ u.cell? ⟨lb, lo + j * 12, none⟩ = some (.int .i64 o.kind) ∧ u.cell? ⟨lb, lo + j * 12 + 1, none⟩ = some (.int .i64 o.n.id) ∧ u.cell? ⟨lb, lo + j * 12 + 2, none⟩ = some (.slice la o.n.labels.length lc) ∧ u.cell? ⟨lb, lo + j * 12 + 3, none⟩ = some (.slice ka o.n.keys.length kc) ∧ u.cell? ⟨lb, lo + j * 12 + 4, none⟩ = some (.slice va o.n.vals.length vc) ∧ u.cell? ⟨lb, lo + j * 12 + 5, none⟩ = some (.int .i64 o.e.id) ∧ u.cell? ⟨lb, lo + j * 12 + 6, none⟩ = some (.int .i64 o.e.src) ∧ u.cell? ⟨lb, lo + j * 12 + 7, none⟩ = some (.int .i64 o.e.dst) ∧ u.cell? ⟨lb, lo + j * 12 + 8, none⟩ = some (.string o.e.ty) ∧ u.cell? ⟨lb, lo + j * 12 + 9, none⟩ = some (.slice dka o.e.keys.length dkc) ∧ u.cell? ⟨lb, lo + j * 12 + 10, none⟩ = some (.slice dva o.e.vals.length dvc) ∧ u.cell? ⟨lb, lo + j * 12 + 11, none⟩ = some (.int .i64 o.id)) u0 := HSS.out u0 h00
              clear h00
              refine wpAnyJ_take (i := 0) (v := ?_) rfl (by kernel_rfl) (by kernel_rfl) (by kernel_rfl) (by kernel_rfl) (fun _ _ _ h => h) (Or.inl ⟨by rfl, ?_⟩) (by assumption) ?_
              rotate_left
              focus ((intro w hSw; (try dsimp only at hSw); go_simp); try with_reducible rfl)
              (try simp only [Act.put, List.getElem_toArray, List.getElem_cons_zero, List.getElem_cons_succ, List.setIfInBounds_toArray, List.set_cons_zero, List.set_cons_succ])
              refine wpAnyJ_take0 (i := 1) (v := ?_) rfl (by kernel_rfl) (by kernel_rfl) (by kernel_rfl) (fun _ _ _ h => h) (Or.inl ⟨by rfl, ?_⟩) ?_
              rotate_left
              focus ((intro w hSw; clear hSw; go_simp); try with_reducible rfl)
              (try simp only [Act.put, List.getElem_toArray, List.getElem_cons_zero, List.getElem_cons_succ, List.setIfInBounds_toArray, List.set_cons_zero, List.set_cons_succ])
              refine wpAnyJ_take0 (i := 2) (v := ?_) rfl (by kernel_rfl) (by kernel_rfl) (by kernel_rfl) (fun _ _ _ h => h) (Or.inl ⟨by rfl, ?_⟩) ?_
              rotate_left
              focus ((intro w hSw; clear hSw; go_simp); try with_reducible rfl)
              (try simp only [Act.put, List.getElem_toArray, List.getElem_cons_zero, List.getElem_cons_succ, List.setIfInBounds_toArray, List.set_cons_zero, List.set_cons_succ])
              refine wpAnyJ_take0 (i := 3) (v := ?_) rfl (by kernel_rfl) (by kernel_rfl) (by kernel_rfl) (fun _ _ _ h => h) (Or.inl ⟨by rfl, ?_⟩) ?_
              rotate_left
              focus ((intro w hSw; clear hSw; go_simp); try with_reducible rfl)
              (try simp only [Act.put, List.getElem_toArray, List.getElem_cons_zero, List.getElem_cons_succ, List.setIfInBounds_toArray, List.set_cons_zero, List.set_cons_succ])
              refine wpAnyJ_take (i := 4) (v := ?_) rfl (by kernel_rfl) (by kernel_rfl) (by kernel_rfl) (by kernel_rfl) (fun _ _ _ h => h) (Or.inl ⟨by rfl, ?_⟩) (by assumption) ?_
              rotate_left
              focus ((intro w hSw; (try dsimp only at hSw); go_simp); try with_reducible rfl)
              (try simp only [Act.put, List.getElem_toArray, List.getElem_cons_zero, List.getElem_cons_succ, List.setIfInBounds_toArray, List.set_cons_zero, List.set_cons_succ])
              refine wpAnyJ_ready (rs := [5, 9]) (by kernel_rfl) (by simp) ?_
              refine AllReadyJ.cons rfl (fun KK hKK => ?_) (AllReadyJ.cons rfl (fun KK hKK => ?_) AllReadyJ.nil)
              · skip
                go_simp
                go_at_call 14
                refine (HSH.out (u0) (H00.out)).mono ?_
                rintro e u1 ⟨cs1, rfl, hb1, hG1⟩
                obtain ⟨ra, rc, rd, re, rfl, -⟩ := hG1 u1 (Nat.le_refl _) (fun _ _ _ => rfl)
                have hH2 : (fun u : World => u.cell? ⟨bX, 0, none⟩ = some (.slice xa X.nodes.length xc) ∧ u.cell? ⟨bX, 1, none⟩ = some (.slice xb X.edges.length xd) ∧ u.cell? ⟨lb, lo + j * 12, none⟩ = some (.int .i64 o.kind) ∧ u.cell? ⟨lb, lo + j * 12 + 1, none⟩ = some (.int .i64 o.n.id) ∧ u.cell? ⟨lb, lo + j * 12 + 2, none⟩ = some (.slice la o.n.labels.length lc) ∧ u.cell? ⟨lb, lo + j * 12 + 3, none⟩ = some (.slice ka o.n.keys.length kc) ∧ u.cell? ⟨lb, lo + j * 12 + 4, none⟩ = some (.slice va o.n.vals.length vc) ∧ u.cell? ⟨lb, lo + j * 12 + 5, none⟩ = some (.int .i64 o.e.id) ∧ u.cell? ⟨lb, lo + j * 12 + 6, none⟩ = some (.int .i64 o.e.src) ∧ u.cell? ⟨lb, lo + j * 12 + 7, none⟩ = some (.int .i64 o.e.dst) ∧ u.cell? ⟨lb, lo + j * 12 + 8, none⟩ = some (.string o.e.ty) ∧ u.cell? ⟨lb, lo + j * 12 + 9, none⟩ = some (.slice dka o.e.keys.length dkc) ∧ u.cell? ⟨lb, lo + j * 12 + 10, none⟩ = some (.slice dva o.e.vals.length dvc) ∧ u.cell? ⟨lb, lo + j * 12 + 11, none⟩ = some (.int .i64 o.id)) u1 := HSS.out u1 ((H00.out).trans (hb1.mono (H00.out).size))
                refine hKK _ _ (fun _ _ => hH2) ?_
                clear hKK KK hHeld
                have hHeld := hH2
                clear hH2
                (try simp only [Act.put, List.getElem_toArray, List.getElem_cons_zero, List.getElem_cons_succ, List.setIfInBounds_toArray, List.set_cons_zero, List.set_cons_succ])
                refine wpAnyJ_take0 (i := 6) (v := ?_) rfl (by kernel_rfl) (by kernel_rfl) (by kernel_rfl) (fun _ _ _ h => h) (Or.inl ⟨by rfl, ?_⟩) ?_
                rotate_left
                focus ((intro w hSw; clear hSw; go_simp); try with_reducible rfl)
                (try simp only [Act.put, List.getElem_toArray, List.getElem_cons_zero, List.getElem_cons_succ, List.setIfInBounds_toArray, List.set_cons_zero, List.set_cons_succ])
                refine wpAnyJ_take0 (i := 7) (v := ?_) rfl (by kernel_rfl) (by kernel_rfl) (by kernel_rfl) (fun _ _ _ h => h) (Or.inl ⟨by rfl, ?_⟩) ?_
                rotate_left
                focus ((intro w hSw; clear hSw; go_simp); try with_reducible rfl)
                (try simp only [Act.put, List.getElem_toArray, List.getElem_cons_zero, List.getElem_cons_succ, List.setIfInBounds_toArray, List.set_cons_zero, List.set_cons_succ])
                refine wpAnyJ_take0 (i := 8) (v := ?_) rfl (by kernel_rfl) (by kernel_rfl) (by kernel_rfl) (fun _ _ _ h => h) (Or.inl ⟨by rfl, ?_⟩) ?_
                rotate_left
                focus ((intro w hSw; clear hSw; go_simp); try with_reducible rfl)
                (try simp only [Act.put, List.getElem_toArray, List.getElem_cons_zero, List.getElem_cons_succ, List.setIfInBounds_toArray, List.set_cons_zero, List.set_cons_succ])
                refine wpAnyJ_ready (rs := [9]) (by kernel_rfl) (by simp) ?_
                refine AllReadyJ.cons rfl (fun KK hKK => ?_) AllReadyJ.nil
                go_simp
                have hH2 : (fun u : World => u.cell? ⟨bX, 0, none⟩ = some (.slice xa X.nodes.length xc) ∧ u.cell? ⟨bX, 1, none⟩ = some (.slice xb X.edges.length xd) ∧ u.cell? ⟨lb, lo + j * 12, none⟩ = some (.int .i64 o.kind) ∧ u.cell? ⟨lb, lo + j * 12 + 1, none⟩ = some (.int .i64 o.n.id) ∧ u.cell? ⟨lb, lo + j * 12 + 2, none⟩ = some (.slice la o.n.labels.length lc) ∧ u.cell? ⟨lb, lo + j * 12 + 3, none⟩ = some (.slice ka o.n.keys.length kc) ∧ u.cell? ⟨lb, lo + j * 12 + 4, none⟩ = some (.slice va o.n.vals.length vc) ∧ u.cell? ⟨lb, lo + j * 12 + 5, none⟩ = some (.int .i64 o.e.id) ∧ u.cell? ⟨lb, lo + j * 12 + 6, none⟩ = some (.int .i64 o.e.src) ∧ u.cell? ⟨lb, lo + j * 12 + 7, none⟩ = some (.int .i64 o.e.dst) ∧ u.cell? ⟨lb, lo + j * 12 + 8, none⟩ = some (.string o.e.ty) ∧ u.cell? ⟨lb, lo + j * 12 + 9, none⟩ = some (.slice dka o.e.keys.length dkc) ∧ u.cell? ⟨lb, lo + j * 12 + 10, none⟩ = some (.slice dva o.e.vals.length dvc) ∧ u.cell? ⟨lb, lo + j * 12 + 11, none⟩ = some (.int .i64 o.id)) (u1.alloc (.cells #[.slice none 0 0, .slice none 0 0] 25)) := HSS.out (u1.alloc (.cells #[.slice none 0 0, .slice none 0 0] 25)) ((H00.out.trans (hb1.mono H00.out.size)).alloc (Nat.le_trans H00.out.size hb1.size) _)
                refine hKK _ _ (fun _ _ => hH2) ?_
                clear hKK KK hHeld
                have hHeld := hH2
                clear hH2
                (try simp only [Act.put, List.getElem_toArray, List.getElem_cons_zero, List.getElem_cons_succ, List.setIfInBounds_toArray, List.set_cons_zero, List.set_cons_succ])
                refine wpAnyJ_ready (rs := [10]) (by kernel_rfl) (by simp) ?_
                refine AllReadyJ.cons rfl (fun KK hKK => ?_) AllReadyJ.nil
                have HT9 : Hid (World.there (u1.alloc (.cells #[.slice none 0 0, .slice none 0 0] 25)) (u1.heap.size) 0 2) := Lib.hid (box_there (Block.new u1 _ _))
                refine step_store_mid (by rfl) 25 _ _ (by rfl) (u1.heap.size) 0 #[.slice ra (chG X o).2.nodes.length rc, .slice rd (chG X o).2.edges.length re] (by rfl) (by rfl) HT9.out (by kernel_rfl) (by simp [Value.oneCell']) ?_
                refine hKK _ _ (fun h => absurd h (by decide)) ?_
                clear hKK KK hHeld HT9
                (try simp only [Act.put, List.getElem_toArray, List.getElem_cons_zero, List.getElem_cons_succ, List.setIfInBounds_toArray, List.set_cons_zero, List.set_cons_succ])
                refine wpAnyJ_take0 (i := 11) (v := ?_) rfl (by kernel_rfl) (by kernel_rfl) (by kernel_rfl) (fun _ _ _ h => h) (Or.inl ⟨by rfl, ?_⟩) ?_
                rotate_left
                focus ((intro w hSw; clear hSw; go_simp); try with_reducible rfl)
                (try simp only [Act.put, List.getElem_toArray, List.getElem_cons_zero, List.getElem_cons_succ, List.setIfInBounds_toArray, List.set_cons_zero, List.set_cons_succ])
                refine wpAnyJ_done (by kernel_rfl) ?_ _
                refine NoPanic.normal ?_
                have hlem := AtB.first (s := (ra, rc, rd, re)) H00.out hb1 hG1
                obtain ⟨bb, hbb⟩ : ∃ x, u1.heap.size = x := ⟨_, rfl⟩
                rw [hbb] at hlem ⊢
                exact ⟨ra, rc, rd, re, bb, hlem, rfl⟩
              · skip
                go_simp
                have hH2 : (fun u : World => u.cell? ⟨bX, 0, none⟩ = some (.slice xa X.nodes.length xc) ∧ u.cell? ⟨bX, 1, none⟩ = some (.slice xb X.edges.length xd) ∧ u.cell? ⟨lb, lo + j * 12, none⟩ = some (.int .i64 o.kind) ∧ u.cell? ⟨lb, lo + j * 12 + 1, none⟩ = some (.int .i64 o.n.id) ∧ u.cell? ⟨lb, lo + j * 12 + 2, none⟩ = some (.slice la o.n.labels.length lc) ∧ u.cell? ⟨lb, lo + j * 12 + 3, none⟩ = some (.slice ka o.n.keys.length kc) ∧ u.cell? ⟨lb, lo + j * 12 + 4, none⟩ = some (.slice va o.n.vals.length vc) ∧ u.cell? ⟨lb, lo + j * 12 + 5, none⟩ = some (.int .i64 o.e.id) ∧ u.cell? ⟨lb, lo + j * 12 + 6, none⟩ = some (.int .i64 o.e.src) ∧ u.cell? ⟨lb, lo + j * 12 + 7, none⟩ = some (.int .i64 o.e.dst) ∧ u.cell? ⟨lb, lo + j * 12 + 8, none⟩ = some (.string o.e.ty) ∧ u.cell? ⟨lb, lo + j * 12 + 9, none⟩ = some (.slice dka o.e.keys.length dkc) ∧ u.cell? ⟨lb, lo + j * 12 + 10, none⟩ = some (.slice dva o.e.vals.length dvc) ∧ u.cell? ⟨lb, lo + j * 12 + 11, none⟩ = some (.int .i64 o.id)) (u0.alloc (.cells #[.slice none 0 0, .slice none 0 0] 25)) := HSS.out (u0.alloc (.cells #[.slice none 0 0, .slice none 0 0] 25)) (H00.out.alloc H00.out.size _)
                refine hKK _ _ (fun _ _ => hH2) ?_
                clear hKK KK hHeld
                have hHeld := hH2
                clear hH2
                (try simp only [Act.put, List.getElem_toArray, List.getElem_cons_zero, List.getElem_cons_succ, List.setIfInBounds_toArray, List.set_cons_zero, List.set_cons_succ])
                refine wpAnyJ_ready (rs := [5]) (by kernel_rfl) (by simp) ?_
                refine AllReadyJ.cons rfl (fun KK hKK => ?_) AllReadyJ.nil
                go_simp
                go_at_call 14
                refine (HSH.out (u0.alloc (.cells #[.slice none 0 0, .slice none 0 0] 25)) (H00.out.alloc H00.out.size _)).mono ?_
                rintro e u1 ⟨cs1, rfl, hb1, hG1⟩
                obtain ⟨ra, rc, rd, re, rfl, -⟩ := hG1 u1 (Nat.le_refl _) (fun _ _ _ => rfl)
                have hH2 : (fun u : World => u.cell? ⟨bX, 0, none⟩ = some (.slice xa X.nodes.length xc) ∧ u.cell? ⟨bX, 1, none⟩ = some (.slice xb X.edges.length xd) ∧ u.cell? ⟨lb, lo + j * 12, none⟩ = some (.int .i64 o.kind) ∧ u.cell? ⟨lb, lo + j * 12 + 1, none⟩ = some (.int .i64 o.n.id) ∧ u.cell? ⟨lb, lo + j * 12 + 2, none⟩ = some (.slice la o.n.labels.length lc) ∧ u.cell? ⟨lb, lo + j * 12 + 3, none⟩ = some (.slice ka o.n.keys.length kc) ∧ u.cell? ⟨lb, lo + j * 12 + 4, none⟩ = some (.slice va o.n.vals.length vc) ∧ u.cell? ⟨lb, lo + j * 12 + 5, none⟩ = some (.int .i64 o.e.id) ∧ u.cell? ⟨lb, lo + j * 12 + 6, none⟩ = some (.int .i64 o.e.src) ∧ u.cell? ⟨lb, lo + j * 12 + 7, none⟩ = some (.int .i64 o.e.dst) ∧ u.cell? ⟨lb, lo + j * 12 + 8, none⟩ = some (.string o.e.ty) ∧ u.cell? ⟨lb, lo + j * 12 + 9, none⟩ = some (.slice dka o.e.keys.length dkc) ∧ u.cell? ⟨lb, lo + j * 12 + 10, none⟩ = some (.slice dva o.e.vals.length dvc) ∧ u.cell? ⟨lb, lo + j * 12 + 11, none⟩ = some (.int .i64 o.id)) u1 := HSS.out u1 ((H00.out.alloc H00.out.size _).trans (hb1.mono (H00.out.alloc H00.out.size _).size))
                refine hKK _ _ (fun _ _ => hH2) ?_
                clear hKK KK hHeld
                have hHeld := hH2
                clear hH2
                (try simp only [Act.put, List.getElem_toArray, List.getElem_cons_zero, List.getElem_cons_succ, List.setIfInBounds_toArray, List.set_cons_zero, List.set_cons_succ])
                refine wpAnyJ_take0 (i := 6) (v := ?_) rfl (by kernel_rfl) (by kernel_rfl) (by kernel_rfl) (fun _ _ _ h => h) (Or.inl ⟨by rfl, ?_⟩) ?_
                rotate_left
                focus ((intro w hSw; clear hSw; go_simp); try with_reducible rfl)
                (try simp only [Act.put, List.getElem_toArray, List.getElem_cons_zero, List.getElem_cons_succ, List.setIfInBounds_toArray, List.set_cons_zero, List.set_cons_succ])
                refine wpAnyJ_take0 (i := 7) (v := ?_) rfl (by kernel_rfl) (by kernel_rfl) (by kernel_rfl) (fun _ _ _ h => h) (Or.inl ⟨by rfl, ?_⟩) ?_
                rotate_left
                focus ((intro w hSw; clear hSw; go_simp); try with_reducible rfl)
                (try simp only [Act.put, List.getElem_toArray, List.getElem_cons_zero, List.getElem_cons_succ, List.setIfInBounds_toArray, List.set_cons_zero, List.set_cons_succ])
                refine wpAnyJ_take0 (i := 8) (v := ?_) rfl (by kernel_rfl) (by kernel_rfl) (by kernel_rfl) (fun _ _ _ h => h) (Or.inl ⟨by rfl, ?_⟩) ?_
                rotate_left
                focus ((intro w hSw; clear hSw; go_simp); try with_reducible rfl)
                (try simp only [Act.put, List.getElem_toArray, List.getElem_cons_zero, List.getElem_cons_succ, List.setIfInBounds_toArray, List.set_cons_zero, List.set_cons_succ])
                refine wpAnyJ_ready (rs := [10]) (by kernel_rfl) (by simp) ?_
                refine AllReadyJ.cons rfl (fun KK hKK => ?_) AllReadyJ.nil
                have HT9 : Hid (World.there (u1) (u0.heap.size) 0 2) := Lib.hid (box_there ((Block.new u0 _ _).below hb1 (by simp)))
                refine step_store_mid (by rfl) 25 _ _ (by rfl) (u0.heap.size) 0 #[.slice ra (chG X o).2.nodes.length rc, .slice rd (chG X o).2.edges.length re] (by rfl) (by rfl) HT9.out (by kernel_rfl) (by simp [Value.oneCell']) ?_
                refine hKK _ _ (fun h => absurd h (by decide)) ?_
                clear hKK KK hHeld HT9
                (try simp only [Act.put, List.getElem_toArray, List.getElem_cons_zero, List.getElem_cons_succ, List.setIfInBounds_toArray, List.set_cons_zero, List.set_cons_succ])
                refine wpAnyJ_take0 (i := 11) (v := ?_) rfl (by kernel_rfl) (by kernel_rfl) (by kernel_rfl) (fun _ _ _ h => h) (Or.inl ⟨by rfl, ?_⟩) ?_
                rotate_left
                focus ((intro w hSw; clear hSw; go_simp); try with_reducible rfl)
                (try simp only [Act.put, List.getElem_toArray, List.getElem_cons_zero, List.getElem_cons_succ, List.setIfInBounds_toArray, List.set_cons_zero, List.set_cons_succ])
                refine wpAnyJ_done (by kernel_rfl) ?_ _
                refine NoPanic.normal ?_
                have hlem := AtB.second (s := (ra, rc, rd, re)) H00.out hb1 hG1
                obtain ⟨bb, hbb⟩ : ∃ x, u0.heap.size = x := ⟨_, rfl⟩
                rw [hbb] at hlem ⊢
                exact ⟨ra, rc, rd, re, bb, hlem, rfl⟩
            rintro ta tc td te bB w5 ⟨hb5, hB5, hge5, hgb⟩
            obtain ⟨cd, hcd⟩ : ∃ c, (chG X o).1 = c := ⟨_, rfl⟩
            obtain ⟨Y, hY⟩ : ∃ y, (chG X o).2 = y := ⟨_, rfl⟩
            have HYK : Hid (OkC (60 + (j + 1)) Y) := Lib.hid (by rw [← hY]; exact HK.out.ch HSO.out.1 HSO.out.2)
            have hA4' := HA4.out
            have hA' := HA.out
            have hB5' : Block w5 bB [.slice ta (chG X o).2.nodes.length tc, .slice td (chG X o).2.edges.length te] 25 := hB5
            have hgb' : IsG w5.heap.size w5 [.slice ta (chG X o).2.nodes.length tc, .slice td (chG X o).2.edges.length te] (chG X o).2 := hgb
            simp only [gcells] at hA'
            rw [hcd, hY]
            rw [hY] at hA4' hA' hB5' hgb'
            clear hcd hY hB5 hgb HA HA4 HCH HSH HSS HOPU HLC HSO HOJ
            obtain ⟨hge4, hga, hna, hra⟩ := hA'
            have hz24 := HB24.out.size
            have hga5 : IsGO w5 [.slice ra Y.nodes.length rc, .slice rd Y.edges.length re] Y sa := hga.same (fun q hq => hb5.block q (hra q hq).2.1)
            have hbz : bO < W2.heap.size ∧ bX < bO := HWZ.out
            have hb25 := HB24.out.trans (hb5.mono hz24)
            have HO5 := Lib.hid (HOB.out.below hb25 HOB.out.lt)
            have HX5 := Lib.hid (HBK2.out.below hb25 HBK2.out.lt)
            have HA5 : Hid (Block w5 bA [.slice ra Y.nodes.length rc, .slice rd Y.edges.length re] 25) := Lib.hid (hA4'.below hb5 hA4'.lt)
            have HB5 : Hid (Block w5 bB [.slice ta Y.nodes.length tc, .slice td Y.edges.length te] 25) := Lib.hid hB5'
            have HOO5 := Lib.hid (HOO.out.1.same (fun q hq => hb25.block q (by have := (HOO.out.2 q hq).2; omega)))
            have HXI5 := Lib.hid ((HXI2.out.below hb25 (Nat.le_refl _)).mono hb25.size)
            have HG5 : Hid (∃ bs, IsGO w5 [.slice xa X.nodes.length xc, .slice xb X.edges.length xd] X bs ∧ ∀ q ∈ bs, q < w5.heap.size ∧ q ≠ bX) := Lib.hid (by obtain ⟨bs, h1, h2⟩ := HG2.out; exact ⟨bs, h1.same (fun q hq => hb25.block q (h2 q hq).1), fun q hq => ⟨by have := (h2 q hq).1; have := hb25.size; omega, (h2 q hq).2⟩⟩)
            have HBW5 := Lib.hid (HB2.out.trans (hb25.mono HB2.out.size))
            have HSA := Lib.hid (show _ ∧ _ ∧ _ from ⟨hga5, hna, (fun q hq => ⟨by have := (hra q hq).1; omega, by have := (hra q hq).2.1; have := hb5.size; omega, (hra q hq).2.2⟩ : ∀ q ∈ sa, bO < q ∧ q < w5.heap.size ∧ q ≠ bA)⟩)
            have HBA : Hid (bO < bA ∧ bX < bA) := Lib.hid ⟨by omega, by omega⟩
            have HC6 := Lib.hid (sameG_any Y Y [.slice ra Y.nodes.length rc, .slice rd Y.edges.length re] [.slice ta Y.nodes.length tc, .slice td Y.edges.length te] w5.heap.size w5 (hga5.isG (fun q hq => by have := (hra q hq).2.1; have := hb5.size; omega)) hgb' (Nat.le_refl _))
            rw [(sameG_iff _ _).2 rfl] at HC6
            clear hA4' hB5' hgb' hge4 hga hna hra hz24 hga5 hbz hb25 hb5 hge5 HB24 HB4' HBK4 HXI4 HB2 HBK2 HXI2 HG2 HOG HXI HG HBK HB HOB
            have a0 := HA5.out.cell (i := 0) rfl
            have a1 := HA5.out.cell (i := 1) rfl
            have t0 := HB5.out.cell (i := 0) rfl
            have t1 := HB5.out.cell (i := 1) rfl
            go_wp2_with fail
            refine HC6.out.mono ?_
            rintro e w6 ⟨rfl, hb6⟩
            clear a0 a1 t0 t1 HC6
            have HB56 := Lib.hid hb6
            clear hb6
            have o0 := (HO5.out.below HB56.out HO5.out.lt).cell (i := 0) rfl
            have o1 := (HO5.out.below HB56.out HO5.out.lt).cell (i := 1) rfl
            have x0 := (HX5.out.below HB56.out HX5.out.lt).cell (i := 0) rfl
            have x1 := (HX5.out.below HB56.out HX5.out.lt).cell (i := 1) rfl
            have HC7 := Lib.hid (sameG_any X X [.slice oa X.nodes.length oc, .slice ob X.edges.length od] [.slice xa X.nodes.length xc, .slice xb X.edges.length xd] w6.heap.size w6 ((HOO5.out.same (fun q hq => HB56.out.block q (by have := (HOO.out.2 q hq).2; have := HO5.out.lt; omega))).isG (fun q hq => by have := (HOO.out.2 q hq).2; have := HO5.out.lt; have := HB56.out.size; omega)) ((HXI5.out.below HB56.out (Nat.le_refl _)).mono HB56.out.size) (Nat.le_refl _))
            rw [(sameG_iff _ _).2 rfl] at HC7
            go_wp2_with fail
            refine HC7.out.mono ?_
            rintro e w7 ⟨rfl, hb7⟩
            clear o0 o1 x0 x1 HC7
            have HB57 := Lib.hid (HB56.out.trans (hb7.mono HB56.out.size))
            clear hb7
            have HBW7 := Lib.hid (HBW5.out.trans (HB57.out.mono HBW5.out.size))
            have HX7 := Lib.hid (HX5.out.below HB57.out HX5.out.lt)
            by_cases hc0 : cd = 0
            · skip
              have hc0' : (cd != 0) = false := by rw [hc0]; rfl
              have hc1' : (cd == 0) = true := by rw [hc0]; rfl
              have HA7 := Lib.hid (HA5.out.below HB57.out HA5.out.lt)
              have HO7 := Lib.hid (HO5.out.below HB57.out HO5.out.lt)
              have HSA7 : Hid (IsGO w7 [.slice ra Y.nodes.length rc, .slice rd Y.edges.length re] Y sa) := Lib.hid (HSA.out.1.same (fun q hq => HB57.out.block q (HSA.out.2.2 q hq).2.1))
              have HOO7 := Lib.hid (HOO5.out.same (fun q hq => HB57.out.block q (by have := (HOO.out.2 q hq).2; have := HO5.out.lt; omega)))
              have HC8 := Lib.hid (rCopyG_any Y _ _ w7 (HSA7.out.isG (fun q hq => by have := (HSA.out.2.2 q hq).2.1; have := HB57.out.size; omega : ∀ q ∈ sa, q < w7.heap.size)) (Nat.le_refl _) (HYK.out.sm (by omega)))
              have a0 := HA7.out.cell (i := 0) rfl
              have a1 := HA7.out.cell (i := 1) rfl
              go_wp2_with fail
              refine HC8.out.mono ?_
              rintro e w8 ⟨cn, sn, rfl, hb8, hgn, hsn, hrn⟩
              clear a0 a1
              obtain ⟨ya, yc, yb, yd, rfl⟩ := hgn.form
              have hx8 := HX7.out.below hb8 HX7.out.lt
              obtain ⟨W9, hW9⟩ : ∃ we, w8.setCells bX 0 (#[.slice ya Y.nodes.length yc, .slice yb Y.edges.length yd] : Array Value).toList = we := ⟨_, rfl⟩
              have HT9 : Hid (w8.there bX 0 2) := Lib.hid (box_there hx8)
              have hx9 : Block W9 bX [.slice ya Y.nodes.length yc, .slice yb Y.edges.length yd] 25 := by rw [← hW9]; exact (hx8.set 0 _).set 1 _
              have hk9 : ∀ q, q ≠ bX → W9.heap[q]? = w8.heap[q]? := fun q hq => by rw [← hW9]; exact setW_other _ _ _ _ _ hq
              have hz9 : W9.heap.size = w8.heap.size := by rw [← hW9]; exact setW_size _ _ _ _
              have hz78 := hb8.size
              have hz57 := HB57.out.size
              have hwz := HWZ.out
              have hba := HBA.out
              have hbw := HBX.out
              have HBW9 : Hid (Below w.heap.size w W9) := Lib.hid (by rw [← hW9]; exact ((HBW7.out.trans (hb8.mono HBW7.out.size)).setCell hbw _).setCell hbw _)
              have HA9 : Hid (Block W9 bA [.slice ra Y.nodes.length rc, .slice rd Y.edges.length re] 25) := Lib.hid ((HA7.out.below hb8 HA7.out.lt).of_heap (hk9 bA (by omega)))
              have HO9 : Hid (Block W9 bO [.slice oa X.nodes.length oc, .slice ob X.edges.length od] 25) := Lib.hid ((HO7.out.below hb8 HO7.out.lt).of_heap (hk9 bO (by omega)))
              have hsa9 : IsGO W9 [.slice ra Y.nodes.length rc, .slice rd Y.edges.length re] Y sa := HSA7.out.same (fun q hq => by have h3 := HSA.out.2.2 q hq; rw [hk9 q (by omega), hb8.block q (by omega)])
              have hoo9 : IsGO W9 [.slice oa X.nodes.length oc, .slice ob X.edges.length od] X so := HOO7.out.same (fun q hq => by have h3 := HOO.out.2 q hq; have h4 := HO7.out.lt; rw [hk9 q (by omega), hb8.block q (by omega)])
              have hyo9 : IsGO W9 [.slice ya Y.nodes.length yc, .slice yb Y.edges.length yd] Y sn := hgn.same (fun q hq => hk9 q (by have := (hrn q hq).1; have := HX7.out.lt; omega))
              have HSP := Lib.hid (spoilG_any Y _ sa W9 hsa9 HSA.out.2.1 (fun q hq => by have := (HSA.out.2.2 q hq).2.1; omega))
              have HOO9 := Lib.hid hoo9
              have HYO9 := Lib.hid (show _ ∧ _ from ⟨hyo9, (fun q hq => ⟨(hrn q hq).1, by have := (hrn q hq).2; omega⟩ : ∀ q ∈ sn, w7.heap.size ≤ q ∧ q < W9.heap.size)⟩)
              have HXX9 := Lib.hid hx9
              have HW9 := Lib.hid hW9
              have HZ9 : Hid (w7.heap.size ≤ W9.heap.size ∧ w5.heap.size ≤ w7.heap.size) := Lib.hid ⟨by omega, by omega⟩
              have a0 := HA9.out.cell (i := 0) rfl
              have a1 := HA9.out.cell (i := 1) rfl
              clear hx8 hW9 hx9 hk9 hz9 hz78 hz57 hwz hba hbw hsa9 hoo9 hyo9 hb8 hgn hsn hrn
              go_wp2_with (refine wpList_store_mid rfl 25 _ _ rfl bX 0 #[.slice ya Y.nodes.length yc, .slice yb Y.edges.length yd] rfl rfl HT9.out (by kernel_rfl) (by simp [Value.oneCell']) ?_; rw [HW9.out])
              refine HSP.out.mono ?_
              rintro e w10 ⟨rfl, hk10⟩
              clear a0 a1
              have hz10 := hk10.size
              have hz9 := HZ9.out
              have hba := HBA.out
              have hwz := HWZ.out
              have hsn1 : ∀ q, q ∈ sa → bO < q ∧ q < w5.heap.size := fun q hq => ⟨(HSA.out.2.2 q hq).1, (HSA.out.2.2 q hq).2.1⟩
              have HBW10 : Hid (Below w.heap.size w w10) := Lib.hid (HBW9.out.trans (hk10.below (fun q hq => by have := (hsn1 q hq).1; have := HBX.out; omega) HBW9.out.size))
              have HO10 := Lib.hid (HO9.out.of_heap (hk10.block bO HO9.out.lt (fun h => by have := (hsn1 _ h).1; omega)))
              have HX10 := Lib.hid (HXX9.out.of_heap (hk10.block bX HXX9.out.lt (fun h => by have := (hsn1 _ h).1; omega)))
              have hoo10 : IsGO w10 [.slice oa X.nodes.length oc, .slice ob X.edges.length od] X so := HOO9.out.same (fun q hq => hk10.block q (by have := (HOO.out.2 q hq).2; have := HO9.out.lt; omega) (fun h => by have := (hsn1 _ h).1; have := (HOO.out.2 q hq).2; omega))
              have HYO10 : Hid (IsGO w10 [.slice ya Y.nodes.length yc, .slice yb Y.edges.length yd] Y sn) := Lib.hid (HYO9.out.1.same (fun q hq => hk10.block q (HYO9.out.2 q hq).2 (fun h => by have := (hsn1 _ h).2; have := (HYO9.out.2 q hq).1; omega)))
              have HC11 := Lib.hid (sameG_any X X [.slice oa X.nodes.length oc, .slice ob X.edges.length od] [.slice oa X.nodes.length oc, .slice ob X.edges.length od] w10.heap.size w10 (hoo10.isG (fun q hq => by have := (HOO.out.2 q hq).2; have := HO10.out.lt; omega)) (hoo10.isG (fun q hq => by have := (HOO.out.2 q hq).2; have := HO10.out.lt; omega)) (Nat.le_refl _))
              rw [(sameG_iff _ _).2 rfl] at HC11
              have HZ10 := Lib.hid hz10
              have o0 := HO10.out.cell (i := 0) rfl
              have o1 := HO10.out.cell (i := 1) rfl
              clear hk10 hz10 hz9 hba hwz hsn1 hoo10
              go_wp2_with fail
              refine HC11.out.mono ?_
              rintro e w11 ⟨rfl, hb11⟩
              clear o0 o1
              have HB11 := Lib.hid hb11
              clear hb11
              go_wp2_with fail
              go_roundw
              case rel => exact ⟨j + 1, Y, ya, yc, yb, yd, by go_num, by omega, by omega, Lib.hid (HBW10.out.trans (HB11.out.mono HBW10.out.size)), Lib.hid (HX10.out.below HB11.out HX10.out.lt), Lib.hid ⟨sn, HYO10.out.same (fun q hq => HB11.out.block q (by have := (HYO9.out.2 q hq).2; have := HZ10.out; omega)), fun q hq => ⟨by have := (HYO9.out.2 q hq).2; have := HZ10.out; have := HB11.out.size; omega, by have := (HYO9.out.2 q hq).1; have := HX7.out.lt; omega⟩⟩, HYK⟩
              case measure => simp [intOf]; omega
            · skip
              have hc0' : (cd != 0) = true := by simpa using hc0
              have hc1' : (cd == 0) = false := by simpa using hc0
              go_wp2_with fail
              go_roundw
              case rel => exact ⟨j + 1, X, xa, xc, xb, xd, by go_num, by omega, by omega, HBW7, HX7, Lib.hid (by obtain ⟨bs, h1, h2⟩ := HG5.out; exact ⟨bs, h1.same (fun q hq => HB57.out.block q (h2 q hq).1), fun q hq => ⟨by have := (h2 q hq).1; have := HB57.out.size; omega, (h2 q hq).2⟩⟩), Lib.hid (HK.out.mono (by omega))⟩
              case measure => simp [intOf]; omega
          · skip
            have hlt' : (j : Int) < os.length := by omega
            have hlt30' : ¬ (j : Int) < 30 := by omega
            go_wp2_with fail
            refine (gworks_any wr).mono ?_
            rintro e wl ⟨rfl, hbl⟩
            have HBL := Lib.hid (HB.out.trans (hbl.mono HB.out.size))
            clear hbl
            go_wp2_with fail
            exact HQ.out _ HBL.out
        · skip
          have hlt' : ¬ (j : Int) < os.length := by omega
          go_wp2_with fail
          refine (gworks_any wr).mono ?_
          rintro e wl ⟨rfl, hbl⟩
          have HBL := Lib.hid (HB.out.trans (hbl.mono HB.out.size))
          clear hbl
          go_wp2_with fail
          exact HQ.out _ HBL.out
end Go.Proofs.Ytoakloicjlfaaaa

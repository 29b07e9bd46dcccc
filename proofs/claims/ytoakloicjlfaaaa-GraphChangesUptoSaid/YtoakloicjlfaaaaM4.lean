/- The texts G21, G22, G23, G24, Text, S1 of this seat, one behind the other. Conditions: each says its own. -/
import Derived.Deep.AppendSrc
import Derived.Deep.Upon
import Derived.Laws.BytesString
import Derived.Laws.IdiomStrings
import Derived.Test.YtoakloicjlfaaaaProg
import Derived.Outline
import Derived.Lib.Strings
import Derived.Lib.IndexBytes
import Derived.Lib.RuneBytes
import Derived.Laws.RangeAny
import Derived.Test.YtoakloicjlfaaaaM3

/- Layer 14: the program's Put. Conditions: the graph's numbers rise, the graph is small. -/
namespace Go.Proofs.Ytoakloicjlfaaaa
open Go.RowKit
set_option linter.unusedSimpArgs false
set_option linter.unusedVariables false
set_option maxRecDepth 100000

theorem posI_lt {l : List Int} {id : Int} (h : hasI l id = true) : posI l id < l.length := by
  unfold hasI at h
  have := of_decide_eq_true h
  exact (List.getElem?_eq_some_iff.1 this).1
theorem mem_setL {α : Type} {l : List α} {i j : Nat} {is : Bool} {x y : α} (h : (setL l i is x)[j]? = some y) : y = x ∨ ∃ k : Nat, l[k]? = some y := by
  have hm := List.mem_of_getElem? h
  unfold setL at hm
  rcases List.mem_append.1 hm with hm | hm
  · exact .inr (List.getElem?_of_mem (List.mem_of_mem_take hm))
  · rcases List.mem_cons.1 hm with hm | hm
    · exact .inl hm
    · exact .inr (List.getElem?_of_mem (List.mem_of_mem_drop hm))

set_option maxHeartbeats 8000000 in
theorem put_any (g : Gt) (n : Nt) (cs ds : List Value) (B : Nat) (w : World) (hg : IsG B w cs g) (hn : IsN B w ds n) (hB : B ≤ w.heap.size) (hr : RiseI (idsN g)) (hsm : SmG g) (hsn : SmN n) :
    Calls Try.prog 17 #[.agg cs.toArray, .agg ds.toArray] w (ResP (putG g n) w) := by
  obtain ⟨na, nc, ea, ec, rfl, hnz, hez, hN, hE⟩ := hg
  have hn0 := hn
  obtain ⟨la, lc, ka, kc, va, vc, rfl⟩ := node_cells hn0
  show Calls Try.prog 17 #[.agg #[.slice na g.nodes.length nc, .slice ea g.edges.length ec], .agg #[.int .i64 n.id, .slice la n.labels.length lc, .slice ka n.keys.length kc, .slice va n.vals.length vc]] w _
  obtain ⟨⟨hnl, hel⟩, hs1, hs2⟩ := hsm
  obtain ⟨W0, hW0⟩ : ∃ W0, ((w.alloc (.cells #[.slice na g.nodes.length nc, .slice ea g.edges.length ec] 25)).alloc (.cells #[.int .i64 n.id, .slice la n.labels.length lc, .slice ka n.keys.length kc, .slice va n.vals.length vc] 38)).alloc (.cells #[.slice none 0 0, .slice none 0 0] 25) = W0 := ⟨_, rfl⟩
  have HBX : Hid (Bx w [([.slice na g.nodes.length nc, .slice ea g.edges.length ec], 25), ([.int .i64 n.id, .slice la n.labels.length lc, .slice ka n.keys.length kc, .slice va n.vals.length vc], 38), ([.slice none 0 0, .slice none 0 0], 25)] W0) := Lib.hid (by rw [← hW0]; exact ((((((Bx.nil w).alloc rfl [.slice na g.nodes.length nc, .slice ea g.edges.length ec] 25)).alloc (by simp) [.int .i64 n.id, .slice la n.labels.length lc, .slice ka n.keys.length kc, .slice va n.vals.length vc] 38)).alloc (by simp) [.slice none 0 0, .slice none 0 0] 25))
  have HW0 := Lib.hid hW0
  have HM := Lib.hid (fun (w' : World) (hb : Below w.heap.size w w') => mayNode_any n _ B w' (hn.below hb hB) (Nat.le_trans hB hb.size))
  have HFI := Lib.hid (fun (w' : World) (hb : Below w.heap.size w w') => findNode_any g.nodes n.id na nc B w' (hN.below hb hB (fun _ _ h => h.below hb hB)) (Nat.le_trans hB hb.size) (by omega) hr)
  have HSE0 := Lib.hid (fun (i : Nat) (is : Bool) (h1 : i ≤ g.nodes.length) (h2 : is = true → i < g.nodes.length) (w' : World) (hb : Below w.heap.size w w') => setNode_any g.nodes n i is na nc B _ w' (hN.below hb hB (fun _ _ h => h.below hb hB)) (Nat.le_trans hB hb.size) hnz (hn.below hb hB) h1 h2 hnl)
  have HNZ := Lib.hid hnz
  have HEZ := Lib.hid hez
  have HNS := Lib.hid hN
  have HES := Lib.hid hE
  have HSM2 : Hid (∀ i is, ((setL g.nodes i is n).length ≤ 1048576) → SmG ⟨setL g.nodes i is n, g.edges⟩) := Lib.hid (fun i is h => ⟨⟨h, hel⟩, fun j y hy => by rcases mem_setL hy with rfl | ⟨k, hk⟩; exact hsn; exact hs1 k y hk, hs2⟩)
  have HPL := Lib.hid (posI_le (idsN g) n.id)
  have HPT := Lib.hid (fun h => posI_lt (l := idsN g) (id := n.id) h)
  have hil : (idsN g).length = g.nodes.length := by unfold idsN; simp
  rw [hil] at HPL HPT
  have HR0 : Hid (∀ r, putG g n = r → putG g n = r) := Lib.hid (fun _ h => h)
  have i0_0 : W0.cell? ⟨w.heap.size, 0, none⟩ = some (.slice na g.nodes.length nc) := HBX.out.cell 0 0 rfl rfl
  have i0_1 : W0.cell? ⟨w.heap.size, 1, none⟩ = some (.slice ea g.edges.length ec) := HBX.out.cell 0 1 rfl rfl
  have i1_0 : W0.cell? ⟨w.heap.size + 1, 0, none⟩ = some (.int .i64 n.id) := HBX.out.cell 1 0 rfl rfl
  have i1_1 : W0.cell? ⟨w.heap.size + 1, 1, none⟩ = some (.slice la n.labels.length lc) := HBX.out.cell 1 1 rfl rfl
  have i1_2 : W0.cell? ⟨w.heap.size + 1, 2, none⟩ = some (.slice ka n.keys.length kc) := HBX.out.cell 1 2 rfl rfl
  have i1_3 : W0.cell? ⟨w.heap.size + 1, 3, none⟩ = some (.slice va n.vals.length vc) := HBX.out.cell 1 3 rfl rfl
  have i2_0 : W0.cell? ⟨w.heap.size + 2, 0, none⟩ = some (.slice none 0 0) := HBX.out.cell 2 0 rfl rfl
  have i2_1 : W0.cell? ⟨w.heap.size + 2, 1, none⟩ = some (.slice none 0 0) := HBX.out.cell 2 1 rfl rfl
  rw [← hW0] at i0_0 i0_1 i1_0 i1_1 i1_2 i1_3 i2_0 i2_1
  clear hW0 hN hE hn hn0 hnz hez hr hs1 hs2 hsn hil
  go_enter Try.func17, Try.ntmps17
  go_wp2_with fail
  (try rw [show w.heap.size + 1 + 1 = w.heap.size + 2 from rfl])
  rw [HW0.out]
  refine (HM.out _ HBX.out.bel).mono ?_
  rintro e w1 ⟨rfl, hb1⟩
  have HBX1 := Lib.hid (HBX.out.below hb1)
  clear i0_0 i0_1 i1_0 i1_1 i1_2 i1_3 i2_0 i2_1 hb1
  cases hm : mayN n with
  | false =>
    have HP : Hid (putG g n = (20, noG)) := Lib.hid (by unfold putG; rw [if_pos hm])
    clear hm HM HFI HSE0
    have f2_0 : w1.cell? ⟨w.heap.size + 2, 0, none⟩ = some (.slice none 0 0) := HBX1.out.cell 2 0 rfl rfl
    have f2_1 : w1.cell? ⟨w.heap.size + 2, 1, none⟩ = some (.slice none 0 0) := HBX1.out.cell 2 1 rfl rfl
    have z2_0 : w1.frozen? ⟨w.heap.size + 2, 0, none⟩ = false := HBX1.out.free 2 0 rfl
    have z2_1 : w1.frozen? ⟨w.heap.size + 2, 1, none⟩ = false := HBX1.out.free 2 1 rfl
    obtain ⟨q0, q1⟩ := two_cells (HBX1.out.blk 2 _ _ rfl) (.slice none 0 0) (.slice none 0 0)
    go_wp2_with fail
    refine bodyPost_ret (by simp [results, Try.results17, go_sem, q0, q1]; rfl) rfl ?_
    rw [HP.out]
    exact ResP.err _ ((HBX1.out.put 2 0 rfl (.slice none 0 0)).put 2 1 rfl (.slice none 0 0)).bel
  | true =>
    have f0_0 : w1.cell? ⟨w.heap.size, 0, none⟩ = some (.slice na g.nodes.length nc) := HBX1.out.cell 0 0 rfl rfl
    have f0_1 : w1.cell? ⟨w.heap.size, 1, none⟩ = some (.slice ea g.edges.length ec) := HBX1.out.cell 0 1 rfl rfl
    have f1_0 : w1.cell? ⟨w.heap.size + 1, 0, none⟩ = some (.int .i64 n.id) := HBX1.out.cell 1 0 rfl rfl
    have f1_1 : w1.cell? ⟨w.heap.size + 1, 1, none⟩ = some (.slice la n.labels.length lc) := HBX1.out.cell 1 1 rfl rfl
    have f1_2 : w1.cell? ⟨w.heap.size + 1, 2, none⟩ = some (.slice ka n.keys.length kc) := HBX1.out.cell 1 2 rfl rfl
    have f1_3 : w1.cell? ⟨w.heap.size + 1, 3, none⟩ = some (.slice va n.vals.length vc) := HBX1.out.cell 1 3 rfl rfl
    have HMT := Lib.hid hm
    clear hm
    go_wp2_with fail
    refine (HFI.out _ HBX1.out.bel).mono ?_
    rintro e w2 ⟨rfl, hb2⟩
    have HBX2 := Lib.hid (HBX1.out.below hb2)
    clear f0_0 f0_1 f1_0 f1_1 f1_2 f1_3 hb2
    obtain ⟨p, hp⟩ : ∃ p, posI (idsN g) n.id = p := ⟨_, rfl⟩
    obtain ⟨is, his⟩ : ∃ is, hasI (idsN g) n.id = is := ⟨_, rfl⟩
    have HPI := Lib.hid hp
    have HII := Lib.hid his
    rw [hp] at HPL HPT
    rw [his] at HPT
    change posI (g.nodes.map (·.id)) n.id = p at hp
    change hasI (g.nodes.map (·.id)) n.id = is at his
    rw [hp, his]
    clear hp his
    have hpl := HPL.out
    have hpl' : (p : Int) ≤ g.nodes.length := by omega
    have hp0 : (0 : Int) ≤ p := by omega
    have HSE := Lib.hid (HSE0.out p is hpl HPT.out)
    by_cases hroom : is = false ∧ 4096 ≤ g.nodes.length
    · have HP : Hid (putG g n = (8, noG)) := Lib.hid (by unfold putG; rw [if_neg (by rw [HMT.out]; simp), if_pos (by rw [HII.out]; exact hroom)])
      obtain ⟨rfl, hbig⟩ := hroom
      have hbig' : (4096 : Int) ≤ g.nodes.length := by omega
      have f0_0 : w2.cell? ⟨w.heap.size, 0, none⟩ = some (.slice na g.nodes.length nc) := HBX2.out.cell 0 0 rfl rfl
      have f0_1 : w2.cell? ⟨w.heap.size, 1, none⟩ = some (.slice ea g.edges.length ec) := HBX2.out.cell 0 1 rfl rfl
      have f2_0 : w2.cell? ⟨w.heap.size + 2, 0, none⟩ = some (.slice none 0 0) := HBX2.out.cell 2 0 rfl rfl
      have f2_1 : w2.cell? ⟨w.heap.size + 2, 1, none⟩ = some (.slice none 0 0) := HBX2.out.cell 2 1 rfl rfl
      have z2_0 : w2.frozen? ⟨w.heap.size + 2, 0, none⟩ = false := HBX2.out.free 2 0 rfl
      have z2_1 : w2.frozen? ⟨w.heap.size + 2, 1, none⟩ = false := HBX2.out.free 2 1 rfl
      obtain ⟨q0, q1⟩ := two_cells (HBX2.out.blk 2 _ _ rfl) (.slice none 0 0) (.slice none 0 0)
      go_wp2_with fail
      refine bodyPost_ret (by simp [results, Try.results17, go_sem, q0, q1]; rfl) rfl ?_
      rw [HP.out]
      exact ResP.err _ ((HBX2.out.put 2 0 rfl (.slice none 0 0)).put 2 1 rfl (.slice none 0 0)).bel
    · have HP : Hid (putG g n = (0, ⟨setL g.nodes p is n, g.edges⟩)) := Lib.hid (by unfold putG; rw [if_neg (by rw [HMT.out]; simp), if_neg (by rw [HII.out]; exact hroom), HPI.out, HII.out])
      have HSM3 : Hid (SmG ⟨setL g.nodes p is n, g.edges⟩) := Lib.hid (HSM2.out p is (by rw [setL_length hpl]; cases is with | true => have := HPT.out rfl; simp; omega | false => simp; have : ¬ 4096 ≤ g.nodes.length := fun h => hroom ⟨rfl, h⟩; omega))
      clear HSM2 HFI HM HSE0 HPT
      have HSM2 := HSM3
      clear HSM3
      cases is with
      | true =>
        clear hroom
        have f0_0 : w2.cell? ⟨w.heap.size, 0, none⟩ = some (.slice na g.nodes.length nc) := HBX2.out.cell 0 0 rfl rfl
        have f0_1 : w2.cell? ⟨w.heap.size, 1, none⟩ = some (.slice ea g.edges.length ec) := HBX2.out.cell 0 1 rfl rfl
        have f1_0 : w2.cell? ⟨w.heap.size + 1, 0, none⟩ = some (.int .i64 n.id) := HBX2.out.cell 1 0 rfl rfl
        have f1_1 : w2.cell? ⟨w.heap.size + 1, 1, none⟩ = some (.slice la n.labels.length lc) := HBX2.out.cell 1 1 rfl rfl
        have f1_2 : w2.cell? ⟨w.heap.size + 1, 2, none⟩ = some (.slice ka n.keys.length kc) := HBX2.out.cell 1 2 rfl rfl
        have f1_3 : w2.cell? ⟨w.heap.size + 1, 3, none⟩ = some (.slice va n.vals.length vc) := HBX2.out.cell 1 3 rfl rfl
        go_wp2_with fail
        refine (HSE.out _ HBX2.out.bel).mono ?_
        rintro e w3 ⟨a3, c3, cl3, rfl, hb3, hown3, hF3⟩
        clear f0_0 f0_1 f1_0 f1_1 f1_2 f1_3
        have HBX3 := Lib.hid (HBX2.out.below hb3)
        obtain ⟨w4, hw4⟩ : ∃ w4, w3.setCell ⟨w.heap.size, 0, none⟩ (.slice a3 (setL g.nodes p true n).length c3) = w4 := ⟨_, rfl⟩
        have HBX4 : Hid (Bx w [([.slice a3 (setL g.nodes p true n).length c3, .slice ea g.edges.length ec], 25), ([.int .i64 n.id, .slice la n.labels.length lc, .slice ka n.keys.length kc, .slice va n.vals.length vc], 38), ([.slice none 0 0, .slice none 0 0], 25)] w4) := Lib.hid (by rw [← hw4]; exact HBX3.out.put 0 0 rfl _)
        have hown4 : w4.ownsRow w2.heap.size 38 4 (.slice a3 (setL g.nodes p true n).length c3) (setL g.nodes p true n).length cl3 := by rw [← hw4]; exact own_frame hown3 fun q hq _ => Below.heap_setCell _ _ _ _ (by have := HBX2.out.len; simp at this; show q ≠ w.heap.size; omega)
        have hr4 : SlOk a3 (setL g.nodes p true n).length c3 ∧ RowR (IsN w4.heap.size w4) 4 w4.heap.size w4 a3 (setL g.nodes p true n) := RowP.row (by decide) (fun cs x h => by have hb : Below w.heap.size w2 w4 := (by rw [← hw4]; exact (hb3.mono HBX2.out.bel.size).setCell (Nat.le_refl _) _); exact (h.below hb hB).mono (Nat.le_trans hB HBX4.out.bel.size)) hF3 hown4
        have hg4 : IsG w4.heap.size w4 [.slice a3 (setL g.nodes p true n).length c3, .slice ea g.edges.length ec] ⟨(setL g.nodes p true n), g.edges⟩ := ⟨a3, c3, ea, ec, rfl, hr4.1, HEZ.out, hr4.2, (HES.out.below HBX4.out.bel hB (fun _ _ h => h.below HBX4.out.bel hB)).mono (Nat.le_trans hB HBX4.out.bel.size) (fun _ _ h => h.mono (Nat.le_trans hB HBX4.out.bel.size))⟩
        have HCO := Lib.hid (copyG_any _ _ _ w4 hg4 (Nat.le_refl _) HSM2.out)
        have HW4 := Lib.hid hw4
        have f0_0 : w4.cell? ⟨w.heap.size, 0, none⟩ = some (.slice a3 (setL g.nodes p true n).length c3) := HBX4.out.cell 0 0 rfl rfl
        have f0_1 : w4.cell? ⟨w.heap.size, 1, none⟩ = some (.slice ea g.edges.length ec) := HBX4.out.cell 0 1 rfl rfl
        have z0_0 := HBX3.out.free 0 0 rfl
        have y0_0 : w3.cell? ⟨w.heap.size, 0, none⟩ = some (.slice na g.nodes.length nc) := HBX3.out.cell 0 0 rfl rfl
        rw [← hw4] at f0_0 f0_1
        have z0_0' : w3.frozen? ⟨w.heap.size, 0, none⟩ = false := z0_0
        skip
        clear hw4 hown3 hown4 hF3 hr4 hg4 hb3
        go_wp2_with fail
        rw [HW4.out]
        refine HCO.out.mono ?_
        rintro e w5 ⟨cs5, bs5, rfl, hb5, hG5, nd5, rg5⟩
        clear f0_0 f0_1 z0_0 z0_0' y0_0
        have hG6 := hG5
        obtain ⟨na5, nc5, ea5, ec5, b51, b52, rfl, -⟩ := hG6
        have HBX5 := Lib.hid (HBX4.out.below hb5)
        have HE5 := Lib.hid (show _ ∧ _ ∧ _ ∧ _ from ⟨hb5, hG5, nd5, rg5⟩)
        clear hb5 hG5 nd5 rg5
        have f2_0 : w5.cell? ⟨w.heap.size + 2, 0, none⟩ = some (.slice none 0 0) := HBX5.out.cell 2 0 rfl rfl
        have f2_1 : w5.cell? ⟨w.heap.size + 2, 1, none⟩ = some (.slice none 0 0) := HBX5.out.cell 2 1 rfl rfl
        have z2_0 : w5.frozen? ⟨w.heap.size + 2, 0, none⟩ = false := HBX5.out.free 2 0 rfl
        have z2_1 : w5.frozen? ⟨w.heap.size + 2, 1, none⟩ = false := HBX5.out.free 2 1 rfl
        obtain ⟨q0, q1⟩ := two_cells (HBX5.out.blk 2 _ _ rfl) (.slice na5 (setL g.nodes p true n).length nc5) (.slice ea5 g.edges.length ec5)
        go_wp2_with fail
        refine bodyPost_ret (by simp [results, Try.results17, go_sem, q0, q1]; rfl) rfl ?_
        have hbf := ((HBX5.out.put 2 0 rfl (.slice na5 (setL g.nodes p true n).length nc5)).put 2 1 rfl (.slice ea5 g.edges.length ec5)).bel
        obtain ⟨hb5, hG5, nd5, rg5⟩ := HE5.out
        have hl4 := HBX4.out.len
        simp only [List.length_cons, List.length_nil] at hl4
        rw [HP.out]
        refine ⟨_, bs5, rfl, hbf, hG5.same fun q hq => ?_, nd5, fun q hq => ?_⟩
        · have h9 := rg5 q hq; rw [Below.heap_setCell _ _ _ _ (by show q ≠ w.heap.size + 2; omega), Below.heap_setCell _ _ _ _ (by show q ≠ w.heap.size + 2; omega)]
        · have h9 := rg5 q hq; simp [World.setCell]; omega
      | false =>
        have hsml : g.nodes.length < 4096 := by have : ¬ 4096 ≤ g.nodes.length := fun h => hroom ⟨rfl, h⟩; omega
        have hsml' : (g.nodes.length : Int) < 4096 := by omega
        have hsml2 : ¬ (4096 : Int) ≤ g.nodes.length := by omega
        clear hroom
        have f0_0 : w2.cell? ⟨w.heap.size, 0, none⟩ = some (.slice na g.nodes.length nc) := HBX2.out.cell 0 0 rfl rfl
        have f0_1 : w2.cell? ⟨w.heap.size, 1, none⟩ = some (.slice ea g.edges.length ec) := HBX2.out.cell 0 1 rfl rfl
        have f1_0 : w2.cell? ⟨w.heap.size + 1, 0, none⟩ = some (.int .i64 n.id) := HBX2.out.cell 1 0 rfl rfl
        have f1_1 : w2.cell? ⟨w.heap.size + 1, 1, none⟩ = some (.slice la n.labels.length lc) := HBX2.out.cell 1 1 rfl rfl
        have f1_2 : w2.cell? ⟨w.heap.size + 1, 2, none⟩ = some (.slice ka n.keys.length kc) := HBX2.out.cell 1 2 rfl rfl
        have f1_3 : w2.cell? ⟨w.heap.size + 1, 3, none⟩ = some (.slice va n.vals.length vc) := HBX2.out.cell 1 3 rfl rfl
        go_wp2_with fail
        refine (HSE.out _ HBX2.out.bel).mono ?_
        rintro e w3 ⟨a3, c3, cl3, rfl, hb3, hown3, hF3⟩
        clear f0_0 f0_1 f1_0 f1_1 f1_2 f1_3
        have HBX3 := Lib.hid (HBX2.out.below hb3)
        obtain ⟨w4, hw4⟩ : ∃ w4, w3.setCell ⟨w.heap.size, 0, none⟩ (.slice a3 (setL g.nodes p false n).length c3) = w4 := ⟨_, rfl⟩
        have HBX4 : Hid (Bx w [([.slice a3 (setL g.nodes p false n).length c3, .slice ea g.edges.length ec], 25), ([.int .i64 n.id, .slice la n.labels.length lc, .slice ka n.keys.length kc, .slice va n.vals.length vc], 38), ([.slice none 0 0, .slice none 0 0], 25)] w4) := Lib.hid (by rw [← hw4]; exact HBX3.out.put 0 0 rfl _)
        have hown4 : w4.ownsRow w2.heap.size 38 4 (.slice a3 (setL g.nodes p false n).length c3) (setL g.nodes p false n).length cl3 := by rw [← hw4]; exact own_frame hown3 fun q hq _ => Below.heap_setCell _ _ _ _ (by have := HBX2.out.len; simp at this; show q ≠ w.heap.size; omega)
        have hr4 : SlOk a3 (setL g.nodes p false n).length c3 ∧ RowR (IsN w4.heap.size w4) 4 w4.heap.size w4 a3 (setL g.nodes p false n) := RowP.row (by decide) (fun cs x h => by have hb : Below w.heap.size w2 w4 := (by rw [← hw4]; exact (hb3.mono HBX2.out.bel.size).setCell (Nat.le_refl _) _); exact (h.below hb hB).mono (Nat.le_trans hB HBX4.out.bel.size)) hF3 hown4
        have hg4 : IsG w4.heap.size w4 [.slice a3 (setL g.nodes p false n).length c3, .slice ea g.edges.length ec] ⟨(setL g.nodes p false n), g.edges⟩ := ⟨a3, c3, ea, ec, rfl, hr4.1, HEZ.out, hr4.2, (HES.out.below HBX4.out.bel hB (fun _ _ h => h.below HBX4.out.bel hB)).mono (Nat.le_trans hB HBX4.out.bel.size) (fun _ _ h => h.mono (Nat.le_trans hB HBX4.out.bel.size))⟩
        have HCO := Lib.hid (copyG_any _ _ _ w4 hg4 (Nat.le_refl _) HSM2.out)
        have HW4 := Lib.hid hw4
        have f0_0 : w4.cell? ⟨w.heap.size, 0, none⟩ = some (.slice a3 (setL g.nodes p false n).length c3) := HBX4.out.cell 0 0 rfl rfl
        have f0_1 : w4.cell? ⟨w.heap.size, 1, none⟩ = some (.slice ea g.edges.length ec) := HBX4.out.cell 0 1 rfl rfl
        have z0_0 := HBX3.out.free 0 0 rfl
        have y0_0 : w3.cell? ⟨w.heap.size, 0, none⟩ = some (.slice na g.nodes.length nc) := HBX3.out.cell 0 0 rfl rfl
        rw [← hw4] at f0_0 f0_1
        have z0_0' : w3.frozen? ⟨w.heap.size, 0, none⟩ = false := z0_0
        skip
        clear hw4 hown3 hown4 hF3 hr4 hg4 hb3
        go_wp2_with fail
        rw [HW4.out]
        refine HCO.out.mono ?_
        rintro e w5 ⟨cs5, bs5, rfl, hb5, hG5, nd5, rg5⟩
        clear f0_0 f0_1 z0_0 z0_0' y0_0
        have hG6 := hG5
        obtain ⟨na5, nc5, ea5, ec5, b51, b52, rfl, -⟩ := hG6
        have HBX5 := Lib.hid (HBX4.out.below hb5)
        have HE5 := Lib.hid (show _ ∧ _ ∧ _ ∧ _ from ⟨hb5, hG5, nd5, rg5⟩)
        clear hb5 hG5 nd5 rg5
        have f2_0 : w5.cell? ⟨w.heap.size + 2, 0, none⟩ = some (.slice none 0 0) := HBX5.out.cell 2 0 rfl rfl
        have f2_1 : w5.cell? ⟨w.heap.size + 2, 1, none⟩ = some (.slice none 0 0) := HBX5.out.cell 2 1 rfl rfl
        have z2_0 : w5.frozen? ⟨w.heap.size + 2, 0, none⟩ = false := HBX5.out.free 2 0 rfl
        have z2_1 : w5.frozen? ⟨w.heap.size + 2, 1, none⟩ = false := HBX5.out.free 2 1 rfl
        obtain ⟨q0, q1⟩ := two_cells (HBX5.out.blk 2 _ _ rfl) (.slice na5 (setL g.nodes p false n).length nc5) (.slice ea5 g.edges.length ec5)
        go_wp2_with fail
        refine bodyPost_ret (by simp [results, Try.results17, go_sem, q0, q1]; rfl) rfl ?_
        have hbf := ((HBX5.out.put 2 0 rfl (.slice na5 (setL g.nodes p false n).length nc5)).put 2 1 rfl (.slice ea5 g.edges.length ec5)).bel
        obtain ⟨hb5, hG5, nd5, rg5⟩ := HE5.out
        have hl4 := HBX4.out.len
        simp only [List.length_cons, List.length_nil] at hl4
        rw [HP.out]
        refine ⟨_, bs5, rfl, hbf, hG5.same fun q hq => ?_, nd5, fun q hq => ?_⟩
        · have h9 := rg5 q hq; rw [Below.heap_setCell _ _ _ _ (by show q ≠ w.heap.size + 2; omega), Below.heap_setCell _ _ _ _ (by show q ≠ w.heap.size + 2; omega)]
        · have h9 := rg5 q hq; simp [World.setCell]; omega
end Go.Proofs.Ytoakloicjlfaaaa

/- Layer 14: the program's Join. Conditions: the graph's numbers rise, the graph is small. -/
namespace Go.Proofs.Ytoakloicjlfaaaa
open Go.RowKit
set_option linter.unusedSimpArgs false
set_option linter.unusedVariables false
set_option maxRecDepth 100000

set_option maxHeartbeats 16000000 in
theorem join_any (g : Gt) (n : Et) (cs ds : List Value) (B : Nat) (w : World) (hg : IsG B w cs g) (hn : IsE B w ds n) (hB : B ≤ w.heap.size) (hr : RiseI (idsN g)) (hre : RiseI (idsE g)) (hsm : SmG g) (hsn : SmE n) :
    Calls Try.prog 21 #[.agg cs.toArray, .agg ds.toArray] w (ResP (joinG g n) w) := by
  have hg0 := hg
  obtain ⟨na, nc, ea, ec, rfl, hnz, hez, hN, hE⟩ := hg
  have hn0 := hn
  obtain ⟨ka, kc, va, vc, rfl⟩ := edge_cells hn0
  show Calls Try.prog 21 #[.agg #[.slice na g.nodes.length nc, .slice ea g.edges.length ec], .agg #[.int .i64 n.id, .int .i64 n.src, .int .i64 n.dst, .string n.ty, .slice ka n.keys.length kc, .slice va n.vals.length vc]] w _
  obtain ⟨⟨hnl, hel⟩, hs1, hs2⟩ := hsm
  obtain ⟨W0, hW0⟩ : ∃ W0, ((w.alloc (.cells #[.slice na g.nodes.length nc, .slice ea g.edges.length ec] 25)).alloc (.cells #[.int .i64 n.id, .int .i64 n.src, .int .i64 n.dst, .string n.ty, .slice ka n.keys.length kc, .slice va n.vals.length vc] 40)).alloc (.cells #[.slice none 0 0, .slice none 0 0] 25) = W0 := ⟨_, rfl⟩
  have HBX : Hid (Bx w [([.slice na g.nodes.length nc, .slice ea g.edges.length ec], 25), ([.int .i64 n.id, .int .i64 n.src, .int .i64 n.dst, .string n.ty, .slice ka n.keys.length kc, .slice va n.vals.length vc], 40), ([.slice none 0 0, .slice none 0 0], 25)] W0) := Lib.hid (by rw [← hW0]; exact ((((((Bx.nil w).alloc rfl [.slice na g.nodes.length nc, .slice ea g.edges.length ec] 25)).alloc (by simp) [.int .i64 n.id, .int .i64 n.src, .int .i64 n.dst, .string n.ty, .slice ka n.keys.length kc, .slice va n.vals.length vc] 40)).alloc (by simp) [.slice none 0 0, .slice none 0 0] 25))
  have HW0 := Lib.hid hW0
  have HM := Lib.hid (fun (w' : World) (hb : Below w.heap.size w w') => mayEdge_any n _ B w' (hn.below hb hB) (Nat.le_trans hB hb.size))
  have HAS := Lib.hid (fun (id : Int) (w' : World) (hb : Below w.heap.size w w') => has_any g id _ B w' (hg0.below hb hB) (Nat.le_trans hB hb.size) (by omega) hr)
  have HFI := Lib.hid (fun (w' : World) (hb : Below w.heap.size w w') => findEdge_any g.edges n.id ea ec B w' (hE.below hb hB (fun _ _ h => h.below hb hB)) (Nat.le_trans hB hb.size) (by omega) hre)
  have HSE0 := Lib.hid (fun (i : Nat) (is : Bool) (h1 : i ≤ g.edges.length) (h2 : is = true → i < g.edges.length) (w' : World) (hb : Below w.heap.size w w') => setEdge_any g.edges n i is ea ec B _ w' (hE.below hb hB (fun _ _ h => h.below hb hB)) (Nat.le_trans hB hb.size) hez (hn.below hb hB) h1 h2 hel)
  have HNZ := Lib.hid hnz
  have HEZ := Lib.hid hez
  have HNS := Lib.hid hN
  have HES := Lib.hid hE
  have HSM2 : Hid (∀ i is, ((setL g.edges i is n).length ≤ 1048576) → SmG ⟨g.nodes, setL g.edges i is n⟩) := Lib.hid (fun i is h => ⟨⟨hnl, h⟩, hs1, fun j y hy => by rcases mem_setL hy with rfl | ⟨k, hk⟩; exact hsn; exact hs2 k y hk⟩)
  have HPL := Lib.hid (posI_le (idsE g) n.id)
  have HPT := Lib.hid (fun h => posI_lt (l := idsE g) (id := n.id) h)
  have hil : (idsE g).length = g.edges.length := by unfold idsE; simp
  rw [hil] at HPL HPT
  have i0_0 : W0.cell? ⟨w.heap.size, 0, none⟩ = some (.slice na g.nodes.length nc) := HBX.out.cell 0 0 rfl rfl
  have i0_1 : W0.cell? ⟨w.heap.size, 1, none⟩ = some (.slice ea g.edges.length ec) := HBX.out.cell 0 1 rfl rfl
  have i1_0 : W0.cell? ⟨w.heap.size + 1, 0, none⟩ = some (.int .i64 n.id) := HBX.out.cell 1 0 rfl rfl
  have i1_1 : W0.cell? ⟨w.heap.size + 1, 1, none⟩ = some (.int .i64 n.src) := HBX.out.cell 1 1 rfl rfl
  have i1_2 : W0.cell? ⟨w.heap.size + 1, 2, none⟩ = some (.int .i64 n.dst) := HBX.out.cell 1 2 rfl rfl
  have i1_3 : W0.cell? ⟨w.heap.size + 1, 3, none⟩ = some (.string n.ty) := HBX.out.cell 1 3 rfl rfl
  have i1_4 : W0.cell? ⟨w.heap.size + 1, 4, none⟩ = some (.slice ka n.keys.length kc) := HBX.out.cell 1 4 rfl rfl
  have i1_5 : W0.cell? ⟨w.heap.size + 1, 5, none⟩ = some (.slice va n.vals.length vc) := HBX.out.cell 1 5 rfl rfl
  have i2_0 : W0.cell? ⟨w.heap.size + 2, 0, none⟩ = some (.slice none 0 0) := HBX.out.cell 2 0 rfl rfl
  have i2_1 : W0.cell? ⟨w.heap.size + 2, 1, none⟩ = some (.slice none 0 0) := HBX.out.cell 2 1 rfl rfl
  rw [← hW0] at i0_0 i0_1 i1_0 i1_1 i1_2 i1_3 i1_4 i1_5 i2_0 i2_1
  clear hW0 hN hE hg0 hn hn0 hnz hez hr hre hs1 hs2 hsn hil
  go_enter Try.func21, Try.ntmps21
  go_wp2_with fail
  (try rw [show w.heap.size + 1 + 1 = w.heap.size + 2 from rfl])
  rw [HW0.out]
  refine (HM.out _ HBX.out.bel).mono ?_
  rintro e w1 ⟨rfl, hb1⟩
  have HBX1 := Lib.hid (HBX.out.below hb1)
  clear i0_0 i0_1 i1_0 i1_1 i1_2 i1_3 i1_4 i1_5 i2_0 i2_1 hb1
  cases hm : mayE n with
  | false =>
    have HP : Hid (joinG g n = (20, noG)) := Lib.hid (by unfold joinG; rw [if_pos hm])
    clear hm HM HFI HSE0 HAS
    have f2_0 : w1.cell? ⟨w.heap.size + 2, 0, none⟩ = some (.slice none 0 0) := HBX1.out.cell 2 0 rfl rfl
    have f2_1 : w1.cell? ⟨w.heap.size + 2, 1, none⟩ = some (.slice none 0 0) := HBX1.out.cell 2 1 rfl rfl
    have z2_0 : w1.frozen? ⟨w.heap.size + 2, 0, none⟩ = false := HBX1.out.free 2 0 rfl
    have z2_1 : w1.frozen? ⟨w.heap.size + 2, 1, none⟩ = false := HBX1.out.free 2 1 rfl
    obtain ⟨q0, q1⟩ := two_cells (HBX1.out.blk 2 _ _ rfl) (.slice none 0 0) (.slice none 0 0)
    go_wp2_with fail
    refine bodyPost_ret (by simp [results, Try.results21, go_sem, q0, q1]; rfl) rfl ?_
    rw [HP.out]
    exact ResP.err _ ((HBX1.out.put 2 0 rfl (.slice none 0 0)).put 2 1 rfl (.slice none 0 0)).bel
  | true =>
    have HMT := Lib.hid hm
    clear hm
    have f0_0 : w1.cell? ⟨w.heap.size, 0, none⟩ = some (.slice na g.nodes.length nc) := HBX1.out.cell 0 0 rfl rfl
    have f0_1 : w1.cell? ⟨w.heap.size, 1, none⟩ = some (.slice ea g.edges.length ec) := HBX1.out.cell 0 1 rfl rfl
    have f1_0 : w1.cell? ⟨w.heap.size + 1, 0, none⟩ = some (.int .i64 n.id) := HBX1.out.cell 1 0 rfl rfl
    have f1_1 : w1.cell? ⟨w.heap.size + 1, 1, none⟩ = some (.int .i64 n.src) := HBX1.out.cell 1 1 rfl rfl
    have f1_2 : w1.cell? ⟨w.heap.size + 1, 2, none⟩ = some (.int .i64 n.dst) := HBX1.out.cell 1 2 rfl rfl
    have f1_3 : w1.cell? ⟨w.heap.size + 1, 3, none⟩ = some (.string n.ty) := HBX1.out.cell 1 3 rfl rfl
    have f1_4 : w1.cell? ⟨w.heap.size + 1, 4, none⟩ = some (.slice ka n.keys.length kc) := HBX1.out.cell 1 4 rfl rfl
    have f1_5 : w1.cell? ⟨w.heap.size + 1, 5, none⟩ = some (.slice va n.vals.length vc) := HBX1.out.cell 1 5 rfl rfl
    go_wp2_with fail
    refine (HAS.out n.src _ HBX1.out.bel).mono ?_
    rintro e w1b ⟨rfl, hb1b⟩
    have HBX1b := Lib.hid (HBX1.out.below hb1b)
    clear f0_0 f0_1 f1_0 f1_1 f1_2 f1_3 f1_4 f1_5 hb1b
    skip
    cases hsrc : hasI (idsN g) n.src with
    | false =>
      have HP : Hid (joinG g n = (23, noG)) := Lib.hid (by unfold joinG; rw [if_neg (by rw [HMT.out]; simp), if_pos (.inl hsrc)])
      change hasI (g.nodes.map (·.id)) n.src = false at hsrc
      rw [hsrc]
      clear hsrc HM HFI HSE0 HAS
      have f2_0 : w1b.cell? ⟨w.heap.size + 2, 0, none⟩ = some (.slice none 0 0) := HBX1b.out.cell 2 0 rfl rfl
      have f2_1 : w1b.cell? ⟨w.heap.size + 2, 1, none⟩ = some (.slice none 0 0) := HBX1b.out.cell 2 1 rfl rfl
      have z2_0 : w1b.frozen? ⟨w.heap.size + 2, 0, none⟩ = false := HBX1b.out.free 2 0 rfl
      have z2_1 : w1b.frozen? ⟨w.heap.size + 2, 1, none⟩ = false := HBX1b.out.free 2 1 rfl
      obtain ⟨q0, q1⟩ := two_cells (HBX1b.out.blk 2 _ _ rfl) (.slice none 0 0) (.slice none 0 0)
      go_wp2_with fail
      refine bodyPost_ret (by simp [results, Try.results21, go_sem, q0, q1]; rfl) rfl ?_
      rw [HP.out]
      exact ResP.err _ ((HBX1b.out.put 2 0 rfl (.slice none 0 0)).put 2 1 rfl (.slice none 0 0)).bel
    | true =>
      have HSRC := Lib.hid hsrc
      change hasI (g.nodes.map (·.id)) n.src = true at hsrc
      rw [hsrc]
      clear hsrc
      have f0_0 : w1b.cell? ⟨w.heap.size, 0, none⟩ = some (.slice na g.nodes.length nc) := HBX1b.out.cell 0 0 rfl rfl
      have f0_1 : w1b.cell? ⟨w.heap.size, 1, none⟩ = some (.slice ea g.edges.length ec) := HBX1b.out.cell 0 1 rfl rfl
      have f1_0 : w1b.cell? ⟨w.heap.size + 1, 0, none⟩ = some (.int .i64 n.id) := HBX1b.out.cell 1 0 rfl rfl
      have f1_1 : w1b.cell? ⟨w.heap.size + 1, 1, none⟩ = some (.int .i64 n.src) := HBX1b.out.cell 1 1 rfl rfl
      have f1_2 : w1b.cell? ⟨w.heap.size + 1, 2, none⟩ = some (.int .i64 n.dst) := HBX1b.out.cell 1 2 rfl rfl
      have f1_3 : w1b.cell? ⟨w.heap.size + 1, 3, none⟩ = some (.string n.ty) := HBX1b.out.cell 1 3 rfl rfl
      have f1_4 : w1b.cell? ⟨w.heap.size + 1, 4, none⟩ = some (.slice ka n.keys.length kc) := HBX1b.out.cell 1 4 rfl rfl
      have f1_5 : w1b.cell? ⟨w.heap.size + 1, 5, none⟩ = some (.slice va n.vals.length vc) := HBX1b.out.cell 1 5 rfl rfl
      go_wp2_with fail
      refine (HAS.out n.dst _ HBX1b.out.bel).mono ?_
      rintro e w1c ⟨rfl, hb1c⟩
      have HBX1c := Lib.hid (HBX1b.out.below hb1c)
      clear f0_0 f0_1 f1_0 f1_1 f1_2 f1_3 f1_4 f1_5 hb1c
      cases hdst : hasI (idsN g) n.dst with
      | false =>
        have HP : Hid (joinG g n = (23, noG)) := Lib.hid (by unfold joinG; rw [if_neg (by rw [HMT.out]; simp), if_pos (.inr hdst)])
        change hasI (g.nodes.map (·.id)) n.dst = false at hdst
        rw [hdst]
        clear hdst HM HFI HSE0 HAS
        have f2_0 : w1c.cell? ⟨w.heap.size + 2, 0, none⟩ = some (.slice none 0 0) := HBX1c.out.cell 2 0 rfl rfl
        have f2_1 : w1c.cell? ⟨w.heap.size + 2, 1, none⟩ = some (.slice none 0 0) := HBX1c.out.cell 2 1 rfl rfl
        have z2_0 : w1c.frozen? ⟨w.heap.size + 2, 0, none⟩ = false := HBX1c.out.free 2 0 rfl
        have z2_1 : w1c.frozen? ⟨w.heap.size + 2, 1, none⟩ = false := HBX1c.out.free 2 1 rfl
        obtain ⟨q0, q1⟩ := two_cells (HBX1c.out.blk 2 _ _ rfl) (.slice none 0 0) (.slice none 0 0)
        go_wp2_with fail
        refine bodyPost_ret (by simp [results, Try.results21, go_sem, q0, q1]; rfl) rfl ?_
        rw [HP.out]
        exact ResP.err _ ((HBX1c.out.put 2 0 rfl (.slice none 0 0)).put 2 1 rfl (.slice none 0 0)).bel
      | true =>
        have HDST := Lib.hid hdst
        change hasI (g.nodes.map (·.id)) n.dst = true at hdst
        rw [hdst]
        clear hdst
        have HN1 : Hid (¬ mayE n = false) := Lib.hid (by rw [HMT.out]; simp)
        have HN2 : Hid (¬ (hasI (idsN g) n.src = false ∨ hasI (idsN g) n.dst = false)) := Lib.hid (by rw [HSRC.out, HDST.out]; simp)
        clear HAS HMT HSRC HDST
        have f0_0 : w1c.cell? ⟨w.heap.size, 0, none⟩ = some (.slice na g.nodes.length nc) := HBX1c.out.cell 0 0 rfl rfl
        have f0_1 : w1c.cell? ⟨w.heap.size, 1, none⟩ = some (.slice ea g.edges.length ec) := HBX1c.out.cell 0 1 rfl rfl
        have f1_0 : w1c.cell? ⟨w.heap.size + 1, 0, none⟩ = some (.int .i64 n.id) := HBX1c.out.cell 1 0 rfl rfl
        have f1_1 : w1c.cell? ⟨w.heap.size + 1, 1, none⟩ = some (.int .i64 n.src) := HBX1c.out.cell 1 1 rfl rfl
        have f1_2 : w1c.cell? ⟨w.heap.size + 1, 2, none⟩ = some (.int .i64 n.dst) := HBX1c.out.cell 1 2 rfl rfl
        have f1_3 : w1c.cell? ⟨w.heap.size + 1, 3, none⟩ = some (.string n.ty) := HBX1c.out.cell 1 3 rfl rfl
        have f1_4 : w1c.cell? ⟨w.heap.size + 1, 4, none⟩ = some (.slice ka n.keys.length kc) := HBX1c.out.cell 1 4 rfl rfl
        have f1_5 : w1c.cell? ⟨w.heap.size + 1, 5, none⟩ = some (.slice va n.vals.length vc) := HBX1c.out.cell 1 5 rfl rfl
        go_wp2_with fail
        refine (HFI.out _ HBX1c.out.bel).mono ?_
        rintro e w2 ⟨rfl, hb2⟩
        have HBX2 := Lib.hid (HBX1c.out.below hb2)
        clear f0_0 f0_1 f1_0 f1_1 f1_2 f1_3 f1_4 f1_5 hb2
        obtain ⟨p, hp⟩ : ∃ p, posI (idsE g) n.id = p := ⟨_, rfl⟩
        obtain ⟨is, his⟩ : ∃ is, hasI (idsE g) n.id = is := ⟨_, rfl⟩
        have HPI := Lib.hid hp
        have HII := Lib.hid his
        rw [hp] at HPL HPT
        rw [his] at HPT
        change posI (g.edges.map (·.id)) n.id = p at hp
        change hasI (g.edges.map (·.id)) n.id = is at his
        rw [hp, his]
        clear hp his
        have hpl := HPL.out
        have hpl' : (p : Int) ≤ g.edges.length := by omega
        have hp0 : (0 : Int) ≤ p := by omega
        have HSE := Lib.hid (HSE0.out p is hpl HPT.out)
        cases is with
        | true =>
          have hplt := HPT.out rfl
          have hplt' : (p : Int) < g.edges.length := by omega
          have HSM3 : Hid (SmG ⟨g.nodes, setL g.edges p true n⟩) := Lib.hid (HSM2.out p true (by rw [setL_length hpl]; simp; omega))
          clear HSM2
          have HSM2 := HSM3
          clear HSM3
          obtain ⟨x, hx⟩ := get_some hplt
          have hE2 := HES.out.below HBX2.out.bel hB (fun _ _ h => h.below HBX2.out.bel hB)
          obtain ⟨b, off, cs1, eea, hbB, _, hc, hcell⟩ := hE2.at hx
          obtain ⟨xka, xkc, xva, xvc, rfl⟩ := edge_cells hc
          subst eea
          have k0 : w2.cell? ⟨b, off + p * 6, none⟩ = some (.int .i64 x.id) := hcell 0 _ rfl
          have k1 := hcell 1 _ rfl
          have k2 := hcell 2 _ rfl
          have k3 := hcell 3 _ rfl
          have k4 := hcell 4 _ rfl
          have k5 := hcell 5 _ rfl
          obtain ⟨w2b, hw2b⟩ : ∃ w', w2.alloc (.cells #[.int .i64 x.id, .int .i64 x.src, .int .i64 x.dst, .string x.ty, .slice xka x.keys.length xkc, .slice xva x.vals.length xvc] 40) = w' := ⟨_, rfl⟩
          have hb2b : Below w2.heap.size w2 w2b := by rw [← hw2b]; exact (Below.refl _ _).alloc (Nat.le_refl _) _
          have HBX2b := Lib.hid (HBX2.out.below hb2b)
          have hblk : Block w2b w2.heap.size [.int .i64 x.id, .int .i64 x.src, .int .i64 x.dst, .string x.ty, .slice xka x.keys.length xkc, .slice xva x.vals.length xvc] 40 := by rw [← hw2b]; exact Block.new _ _ _
          have HOT : Hid (otherE g n = !(decide (x.src = n.src) && (decide (x.dst = n.dst) && decide (x.ty = n.ty)))) := Lib.hid (by unfold otherE; rw [HPI.out, hx])
          have m1 : w2b.cell? ⟨w2.heap.size, 1, none⟩ = some (.int .i64 x.src) := hblk.cell rfl
          have m2 : w2b.cell? ⟨w2.heap.size, 2, none⟩ = some (.int .i64 x.dst) := hblk.cell rfl
          have m3 : w2b.cell? ⟨w2.heap.size, 3, none⟩ = some (.string x.ty) := hblk.cell rfl
          have f0_0 : w2.cell? ⟨w.heap.size, 0, none⟩ = some (.slice na g.nodes.length nc) := HBX2.out.cell 0 0 rfl rfl
          have f0_1 : w2.cell? ⟨w.heap.size, 1, none⟩ = some (.slice (some ⟨b, off, none⟩) g.edges.length ec) := HBX2.out.cell 0 1 rfl rfl
          have f1_0 : w2.cell? ⟨w.heap.size + 1, 0, none⟩ = some (.int .i64 n.id) := HBX2.out.cell 1 0 rfl rfl
          have f1_1 : w2.cell? ⟨w.heap.size + 1, 1, none⟩ = some (.int .i64 n.src) := HBX2.out.cell 1 1 rfl rfl
          have f1_2 : w2.cell? ⟨w.heap.size + 1, 2, none⟩ = some (.int .i64 n.dst) := HBX2.out.cell 1 2 rfl rfl
          have f1_3 : w2.cell? ⟨w.heap.size + 1, 3, none⟩ = some (.string n.ty) := HBX2.out.cell 1 3 rfl rfl
          have f1_4 : w2.cell? ⟨w.heap.size + 1, 4, none⟩ = some (.slice ka n.keys.length kc) := HBX2.out.cell 1 4 rfl rfl
          have f1_5 : w2.cell? ⟨w.heap.size + 1, 5, none⟩ = some (.slice va n.vals.length vc) := HBX2.out.cell 1 5 rfl rfl
          have e0_0 : w2b.cell? ⟨w.heap.size, 0, none⟩ = some (.slice na g.nodes.length nc) := HBX2b.out.cell 0 0 rfl rfl
          have e0_1 : w2b.cell? ⟨w.heap.size, 1, none⟩ = some (.slice (some ⟨b, off, none⟩) g.edges.length ec) := HBX2b.out.cell 0 1 rfl rfl
          have e1_0 : w2b.cell? ⟨w.heap.size + 1, 0, none⟩ = some (.int .i64 n.id) := HBX2b.out.cell 1 0 rfl rfl
          have e1_1 : w2b.cell? ⟨w.heap.size + 1, 1, none⟩ = some (.int .i64 n.src) := HBX2b.out.cell 1 1 rfl rfl
          have e1_2 : w2b.cell? ⟨w.heap.size + 1, 2, none⟩ = some (.int .i64 n.dst) := HBX2b.out.cell 1 2 rfl rfl
          have e1_3 : w2b.cell? ⟨w.heap.size + 1, 3, none⟩ = some (.string n.ty) := HBX2b.out.cell 1 3 rfl rfl
          have e1_4 : w2b.cell? ⟨w.heap.size + 1, 4, none⟩ = some (.slice ka n.keys.length kc) := HBX2b.out.cell 1 4 rfl rfl
          have e1_5 : w2b.cell? ⟨w.heap.size + 1, 5, none⟩ = some (.slice va n.vals.length vc) := HBX2b.out.cell 1 5 rfl rfl
          rw [← hw2b] at m1 m2 m3 e0_0 e0_1 e1_0 e1_1 e1_2 e1_3 e1_4 e1_5
          have HW2B := Lib.hid hw2b
          clear hx hE2 hc hcell hblk hw2b hb2b hbB
          generalize x.src = s1 at *
          generalize x.dst = d1 at *
          generalize x.ty = y1 at *
          by_cases hsrc : s1 = n.src
          · subst hsrc
            by_cases hdst : d1 = n.dst
            · subst hdst
              by_cases hty : y1 = n.ty
              · subst hty
                have HP : Hid (joinG g n = (0, ⟨g.nodes, setL g.edges p true n⟩)) := Lib.hid (by unfold joinG; rw [if_neg HN1.out, if_neg HN2.out, if_neg (by rw [HOT.out]; simp), if_neg (by rw [HII.out]; simp), HPI.out, HII.out])
                go_wp2_with fail
                rw [HW2B.out]
                clear f0_0 f0_1 f1_0 f1_1 f1_2 f1_3 f1_4 f1_5 e0_0 e0_1 e1_0 e1_1 e1_2 e1_3 e1_4 e1_5 m1 m2 m3 k0 k1 k2 k3 k4 k5
                have HBX2 := HBX2b
                refine (HSE.out _ HBX2.out.bel).mono ?_
                rintro e w3 ⟨a3, c3, cl3, rfl, hb3, hown3, hF3⟩
                skip
                have HBX3 := Lib.hid (HBX2.out.below hb3)
                obtain ⟨w4, hw4⟩ : ∃ w4, w3.setCell ⟨w.heap.size, 1, none⟩ (.slice a3 (setL g.edges p true n).length c3) = w4 := ⟨_, rfl⟩
                have HBX4 : Hid (Bx w [([.slice na g.nodes.length nc, .slice a3 (setL g.edges p true n).length c3], 25), ([.int .i64 n.id, .int .i64 n.src, .int .i64 n.dst, .string n.ty, .slice ka n.keys.length kc, .slice va n.vals.length vc], 40), ([.slice none 0 0, .slice none 0 0], 25)] w4) := Lib.hid (by rw [← hw4]; exact HBX3.out.put 0 1 rfl _)
                have hown4 : w4.ownsRow w2b.heap.size 40 6 (.slice a3 (setL g.edges p true n).length c3) (setL g.edges p true n).length cl3 := by rw [← hw4]; exact own_frame hown3 fun q hq _ => Below.heap_setCell _ _ _ _ (by have := HBX2.out.len; simp at this; show q ≠ w.heap.size; omega)
                have hr4 : SlOk a3 (setL g.edges p true n).length c3 ∧ RowR (IsE w4.heap.size w4) 6 w4.heap.size w4 a3 (setL g.edges p true n) := RowP.row (by decide) (fun cs x h => by have hb : Below w.heap.size w2b w4 := (by rw [← hw4]; exact (hb3.mono HBX2.out.bel.size).setCell (Nat.le_refl _) _); exact (h.below hb hB).mono (Nat.le_trans hB HBX4.out.bel.size)) hF3 hown4
                have hg4 : IsG w4.heap.size w4 [.slice na g.nodes.length nc, .slice a3 (setL g.edges p true n).length c3] ⟨g.nodes, (setL g.edges p true n)⟩ := ⟨na, nc, a3, c3, rfl, HNZ.out, hr4.1, (HNS.out.below HBX4.out.bel hB (fun _ _ h => h.below HBX4.out.bel hB)).mono (Nat.le_trans hB HBX4.out.bel.size) (fun _ _ h => h.mono (Nat.le_trans hB HBX4.out.bel.size)), hr4.2⟩
                have HCO := Lib.hid (copyG_any _ _ _ w4 hg4 (Nat.le_refl _) HSM2.out)
                have HW4 := Lib.hid hw4
                have f0_0 : w4.cell? ⟨w.heap.size, 0, none⟩ = some (.slice na g.nodes.length nc) := HBX4.out.cell 0 0 rfl rfl
                have f0_1 : w4.cell? ⟨w.heap.size, 1, none⟩ = some (.slice a3 (setL g.edges p true n).length c3) := HBX4.out.cell 0 1 rfl rfl
                have z0_1 := HBX3.out.free 0 1 rfl
                have y0_1 : w3.cell? ⟨w.heap.size, 1, none⟩ = some (.slice (some ⟨b, off, none⟩) g.edges.length ec) := HBX3.out.cell 0 1 rfl rfl
                rw [← hw4] at f0_0 f0_1
                have z0_1' : w3.frozen? ⟨w.heap.size, 1, none⟩ = false := z0_1
                skip
                clear hw4 hown3 hown4 hF3 hr4 hg4 hb3
                go_wp2_with fail
                rw [HW4.out]
                refine HCO.out.mono ?_
                rintro e w5 ⟨cs5, bs5, rfl, hb5, hG5, nd5, rg5⟩
                clear f0_0 f0_1 z0_1 z0_1' y0_1
                have hG6 := hG5
                obtain ⟨na5, nc5, ea5, ec5, b51, b52, rfl, -⟩ := hG6
                have HBX5 := Lib.hid (HBX4.out.below hb5)
                have HE5 := Lib.hid (show _ ∧ _ ∧ _ ∧ _ from ⟨hb5, hG5, nd5, rg5⟩)
                clear hb5 hG5 nd5 rg5
                have f2_0 : w5.cell? ⟨w.heap.size + 2, 0, none⟩ = some (.slice none 0 0) := HBX5.out.cell 2 0 rfl rfl
                have f2_1 : w5.cell? ⟨w.heap.size + 2, 1, none⟩ = some (.slice none 0 0) := HBX5.out.cell 2 1 rfl rfl
                have z2_0 : w5.frozen? ⟨w.heap.size + 2, 0, none⟩ = false := HBX5.out.free 2 0 rfl
                have z2_1 : w5.frozen? ⟨w.heap.size + 2, 1, none⟩ = false := HBX5.out.free 2 1 rfl
                obtain ⟨q0, q1⟩ := two_cells (HBX5.out.blk 2 _ _ rfl) (.slice na5 g.nodes.length nc5) (.slice ea5 (setL g.edges p true n).length ec5)
                go_wp2_with fail
                refine bodyPost_ret (by simp [results, Try.results21, go_sem, q0, q1]; rfl) rfl ?_
                have hbf := ((HBX5.out.put 2 0 rfl (.slice na5 g.nodes.length nc5)).put 2 1 rfl (.slice ea5 (setL g.edges p true n).length ec5)).bel
                obtain ⟨hb5, hG5, nd5, rg5⟩ := HE5.out
                have hl4 := HBX4.out.len
                simp only [List.length_cons, List.length_nil] at hl4
                rw [HP.out]
                refine ⟨_, bs5, rfl, hbf, hG5.same fun q hq => ?_, nd5, fun q hq => ?_⟩
                · have h9 := rg5 q hq; rw [Below.heap_setCell _ _ _ _ (by show q ≠ w.heap.size + 2; omega), Below.heap_setCell _ _ _ _ (by show q ≠ w.heap.size + 2; omega)]
                · have h9 := rg5 q hq; simp [World.setCell]; omega
              · skip
                have HP : Hid (joinG g n = (20, noG)) := Lib.hid (by unfold joinG; rw [if_neg HN1.out, if_neg HN2.out, if_pos ⟨HII.out, by rw [HOT.out, decide_eq_false hty]; simp⟩])
                have hty1 : (y1.toList == n.ty.toList) = false := by rw [ba_beq]; simpa using hty
                have hty2 : (y1.toList != n.ty.toList) = true := by unfold bne; rw [hty1]; rfl
                have hty3 : ¬ y1.toList = n.ty.toList := by simpa using hty1
                clear hty
                have f2_0 : w2b.cell? ⟨w.heap.size + 2, 0, none⟩ = some (.slice none 0 0) := HBX2b.out.cell 2 0 rfl rfl
                have f2_1 : w2b.cell? ⟨w.heap.size + 2, 1, none⟩ = some (.slice none 0 0) := HBX2b.out.cell 2 1 rfl rfl
                have z2_0 : w2b.frozen? ⟨w.heap.size + 2, 0, none⟩ = false := HBX2b.out.free 2 0 rfl
                have z2_1 : w2b.frozen? ⟨w.heap.size + 2, 1, none⟩ = false := HBX2b.out.free 2 1 rfl
                obtain ⟨q0, q1⟩ := two_cells (HBX2b.out.blk 2 _ _ rfl) (.slice none 0 0) (.slice none 0 0)
                rw [← HW2B.out] at f2_0 f2_1 z2_0 z2_1 q0 q1
                go_wp2_with fail
                refine bodyPost_ret (by simp [results, Try.results21, go_sem, q0, q1]; rfl) rfl ?_
                rw [HP.out]
                rw [HW2B.out]
                exact ResP.err _ ((HBX2b.out.put 2 0 rfl (.slice none 0 0)).put 2 1 rfl (.slice none 0 0)).bel
            · skip
              have HP : Hid (joinG g n = (20, noG)) := Lib.hid (by unfold joinG; rw [if_neg HN1.out, if_neg HN2.out, if_pos ⟨HII.out, by rw [HOT.out, decide_eq_false hdst]; simp⟩])
              have hdst1 : (d1 == n.dst) = false := by simpa using hdst
              have hdst2 : (d1 != n.dst) = true := by simpa using hdst
              have hdst3 : ¬ d1 = n.dst := hdst
              clear hdst
              have f2_0 : w2b.cell? ⟨w.heap.size + 2, 0, none⟩ = some (.slice none 0 0) := HBX2b.out.cell 2 0 rfl rfl
              have f2_1 : w2b.cell? ⟨w.heap.size + 2, 1, none⟩ = some (.slice none 0 0) := HBX2b.out.cell 2 1 rfl rfl
              have z2_0 : w2b.frozen? ⟨w.heap.size + 2, 0, none⟩ = false := HBX2b.out.free 2 0 rfl
              have z2_1 : w2b.frozen? ⟨w.heap.size + 2, 1, none⟩ = false := HBX2b.out.free 2 1 rfl
              obtain ⟨q0, q1⟩ := two_cells (HBX2b.out.blk 2 _ _ rfl) (.slice none 0 0) (.slice none 0 0)
              rw [← HW2B.out] at f2_0 f2_1 z2_0 z2_1 q0 q1
              go_wp2_with fail
              refine bodyPost_ret (by simp [results, Try.results21, go_sem, q0, q1]; rfl) rfl ?_
              rw [HP.out]
              rw [HW2B.out]
              exact ResP.err _ ((HBX2b.out.put 2 0 rfl (.slice none 0 0)).put 2 1 rfl (.slice none 0 0)).bel
          · skip
            have HP : Hid (joinG g n = (20, noG)) := Lib.hid (by unfold joinG; rw [if_neg HN1.out, if_neg HN2.out, if_pos ⟨HII.out, by rw [HOT.out, decide_eq_false hsrc]; simp⟩])
            have hsrc1 : (s1 == n.src) = false := by simpa using hsrc
            have hsrc2 : (s1 != n.src) = true := by simpa using hsrc
            have hsrc3 : ¬ s1 = n.src := hsrc
            clear hsrc
            have f2_0 : w2b.cell? ⟨w.heap.size + 2, 0, none⟩ = some (.slice none 0 0) := HBX2b.out.cell 2 0 rfl rfl
            have f2_1 : w2b.cell? ⟨w.heap.size + 2, 1, none⟩ = some (.slice none 0 0) := HBX2b.out.cell 2 1 rfl rfl
            have z2_0 : w2b.frozen? ⟨w.heap.size + 2, 0, none⟩ = false := HBX2b.out.free 2 0 rfl
            have z2_1 : w2b.frozen? ⟨w.heap.size + 2, 1, none⟩ = false := HBX2b.out.free 2 1 rfl
            obtain ⟨q0, q1⟩ := two_cells (HBX2b.out.blk 2 _ _ rfl) (.slice none 0 0) (.slice none 0 0)
            rw [← HW2B.out] at f2_0 f2_1 z2_0 z2_1 q0 q1
            go_wp2_with fail
            refine bodyPost_ret (by simp [results, Try.results21, go_sem, q0, q1]; rfl) rfl ?_
            rw [HP.out]
            rw [HW2B.out]
            exact ResP.err _ ((HBX2b.out.put 2 0 rfl (.slice none 0 0)).put 2 1 rfl (.slice none 0 0)).bel
        | false =>
          by_cases hroom : 4096 ≤ g.edges.length
          · have HP : Hid (joinG g n = (8, noG)) := Lib.hid (by unfold joinG; rw [if_neg HN1.out, if_neg HN2.out, if_neg (by rw [HII.out]; simp), if_pos ⟨HII.out, hroom⟩])
            have hbig' : (4096 : Int) ≤ g.edges.length := by omega
            have f0_0 : w2.cell? ⟨w.heap.size, 0, none⟩ = some (.slice na g.nodes.length nc) := HBX2.out.cell 0 0 rfl rfl
            have f0_1 : w2.cell? ⟨w.heap.size, 1, none⟩ = some (.slice ea g.edges.length ec) := HBX2.out.cell 0 1 rfl rfl
            have f2_0 : w2.cell? ⟨w.heap.size + 2, 0, none⟩ = some (.slice none 0 0) := HBX2.out.cell 2 0 rfl rfl
            have f2_1 : w2.cell? ⟨w.heap.size + 2, 1, none⟩ = some (.slice none 0 0) := HBX2.out.cell 2 1 rfl rfl
            have z2_0 : w2.frozen? ⟨w.heap.size + 2, 0, none⟩ = false := HBX2.out.free 2 0 rfl
            have z2_1 : w2.frozen? ⟨w.heap.size + 2, 1, none⟩ = false := HBX2.out.free 2 1 rfl
            obtain ⟨q0, q1⟩ := two_cells (HBX2.out.blk 2 _ _ rfl) (.slice none 0 0) (.slice none 0 0)
            go_wp2_with fail
            refine bodyPost_ret (by simp [results, Try.results21, go_sem, q0, q1]; rfl) rfl ?_
            rw [HP.out]
            exact ResP.err _ ((HBX2.out.put 2 0 rfl (.slice none 0 0)).put 2 1 rfl (.slice none 0 0)).bel
          · have HP : Hid (joinG g n = (0, ⟨g.nodes, setL g.edges p false n⟩)) := Lib.hid (by unfold joinG; rw [if_neg HN1.out, if_neg HN2.out, if_neg (by rw [HII.out]; simp), if_neg (fun h => hroom h.2), HPI.out, HII.out])
            have HSM3 : Hid (SmG ⟨g.nodes, setL g.edges p false n⟩) := Lib.hid (HSM2.out p false (by rw [setL_length hpl]; simp; omega))
            clear HSM2
            have HSM2 := HSM3
            clear HSM3
            have hsml : g.edges.length < 4096 := by omega
            have hsml' : (g.edges.length : Int) < 4096 := by omega
            have hsml2 : ¬ (4096 : Int) ≤ g.edges.length := by omega
            clear hroom
            have f0_0 : w2.cell? ⟨w.heap.size, 0, none⟩ = some (.slice na g.nodes.length nc) := HBX2.out.cell 0 0 rfl rfl
            have f0_1 : w2.cell? ⟨w.heap.size, 1, none⟩ = some (.slice ea g.edges.length ec) := HBX2.out.cell 0 1 rfl rfl
            have f1_0 : w2.cell? ⟨w.heap.size + 1, 0, none⟩ = some (.int .i64 n.id) := HBX2.out.cell 1 0 rfl rfl
            have f1_1 : w2.cell? ⟨w.heap.size + 1, 1, none⟩ = some (.int .i64 n.src) := HBX2.out.cell 1 1 rfl rfl
            have f1_2 : w2.cell? ⟨w.heap.size + 1, 2, none⟩ = some (.int .i64 n.dst) := HBX2.out.cell 1 2 rfl rfl
            have f1_3 : w2.cell? ⟨w.heap.size + 1, 3, none⟩ = some (.string n.ty) := HBX2.out.cell 1 3 rfl rfl
            have f1_4 : w2.cell? ⟨w.heap.size + 1, 4, none⟩ = some (.slice ka n.keys.length kc) := HBX2.out.cell 1 4 rfl rfl
            have f1_5 : w2.cell? ⟨w.heap.size + 1, 5, none⟩ = some (.slice va n.vals.length vc) := HBX2.out.cell 1 5 rfl rfl
            go_wp2_with fail
            refine (HSE.out _ HBX2.out.bel).mono ?_
            rintro e w3 ⟨a3, c3, cl3, rfl, hb3, hown3, hF3⟩
            clear f0_0 f0_1 f1_0 f1_1 f1_2 f1_3 f1_4 f1_5
            have HBX3 := Lib.hid (HBX2.out.below hb3)
            obtain ⟨w4, hw4⟩ : ∃ w4, w3.setCell ⟨w.heap.size, 1, none⟩ (.slice a3 (setL g.edges p false n).length c3) = w4 := ⟨_, rfl⟩
            have HBX4 : Hid (Bx w [([.slice na g.nodes.length nc, .slice a3 (setL g.edges p false n).length c3], 25), ([.int .i64 n.id, .int .i64 n.src, .int .i64 n.dst, .string n.ty, .slice ka n.keys.length kc, .slice va n.vals.length vc], 40), ([.slice none 0 0, .slice none 0 0], 25)] w4) := Lib.hid (by rw [← hw4]; exact HBX3.out.put 0 1 rfl _)
            have hown4 : w4.ownsRow w2.heap.size 40 6 (.slice a3 (setL g.edges p false n).length c3) (setL g.edges p false n).length cl3 := by rw [← hw4]; exact own_frame hown3 fun q hq _ => Below.heap_setCell _ _ _ _ (by have := HBX2.out.len; simp at this; show q ≠ w.heap.size; omega)
            have hr4 : SlOk a3 (setL g.edges p false n).length c3 ∧ RowR (IsE w4.heap.size w4) 6 w4.heap.size w4 a3 (setL g.edges p false n) := RowP.row (by decide) (fun cs x h => by have hb : Below w.heap.size w2 w4 := (by rw [← hw4]; exact (hb3.mono HBX2.out.bel.size).setCell (Nat.le_refl _) _); exact (h.below hb hB).mono (Nat.le_trans hB HBX4.out.bel.size)) hF3 hown4
            have hg4 : IsG w4.heap.size w4 [.slice na g.nodes.length nc, .slice a3 (setL g.edges p false n).length c3] ⟨g.nodes, (setL g.edges p false n)⟩ := ⟨na, nc, a3, c3, rfl, HNZ.out, hr4.1, (HNS.out.below HBX4.out.bel hB (fun _ _ h => h.below HBX4.out.bel hB)).mono (Nat.le_trans hB HBX4.out.bel.size) (fun _ _ h => h.mono (Nat.le_trans hB HBX4.out.bel.size)), hr4.2⟩
            have HCO := Lib.hid (copyG_any _ _ _ w4 hg4 (Nat.le_refl _) HSM2.out)
            have HW4 := Lib.hid hw4
            have f0_0 : w4.cell? ⟨w.heap.size, 0, none⟩ = some (.slice na g.nodes.length nc) := HBX4.out.cell 0 0 rfl rfl
            have f0_1 : w4.cell? ⟨w.heap.size, 1, none⟩ = some (.slice a3 (setL g.edges p false n).length c3) := HBX4.out.cell 0 1 rfl rfl
            have z0_1 := HBX3.out.free 0 1 rfl
            have y0_1 : w3.cell? ⟨w.heap.size, 1, none⟩ = some (.slice ea g.edges.length ec) := HBX3.out.cell 0 1 rfl rfl
            rw [← hw4] at f0_0 f0_1
            have z0_1' : w3.frozen? ⟨w.heap.size, 1, none⟩ = false := z0_1
            skip
            clear hw4 hown3 hown4 hF3 hr4 hg4 hb3
            go_wp2_with fail
            rw [HW4.out]
            refine HCO.out.mono ?_
            rintro e w5 ⟨cs5, bs5, rfl, hb5, hG5, nd5, rg5⟩
            clear f0_0 f0_1 z0_1 z0_1' y0_1
            have hG6 := hG5
            obtain ⟨na5, nc5, ea5, ec5, b51, b52, rfl, -⟩ := hG6
            have HBX5 := Lib.hid (HBX4.out.below hb5)
            have HE5 := Lib.hid (show _ ∧ _ ∧ _ ∧ _ from ⟨hb5, hG5, nd5, rg5⟩)
            clear hb5 hG5 nd5 rg5
            have f2_0 : w5.cell? ⟨w.heap.size + 2, 0, none⟩ = some (.slice none 0 0) := HBX5.out.cell 2 0 rfl rfl
            have f2_1 : w5.cell? ⟨w.heap.size + 2, 1, none⟩ = some (.slice none 0 0) := HBX5.out.cell 2 1 rfl rfl
            have z2_0 : w5.frozen? ⟨w.heap.size + 2, 0, none⟩ = false := HBX5.out.free 2 0 rfl
            have z2_1 : w5.frozen? ⟨w.heap.size + 2, 1, none⟩ = false := HBX5.out.free 2 1 rfl
            obtain ⟨q0, q1⟩ := two_cells (HBX5.out.blk 2 _ _ rfl) (.slice na5 g.nodes.length nc5) (.slice ea5 (setL g.edges p false n).length ec5)
            go_wp2_with fail
            refine bodyPost_ret (by simp [results, Try.results21, go_sem, q0, q1]; rfl) rfl ?_
            have hbf := ((HBX5.out.put 2 0 rfl (.slice na5 g.nodes.length nc5)).put 2 1 rfl (.slice ea5 (setL g.edges p false n).length ec5)).bel
            obtain ⟨hb5, hG5, nd5, rg5⟩ := HE5.out
            have hl4 := HBX4.out.len
            simp only [List.length_cons, List.length_nil] at hl4
            rw [HP.out]
            refine ⟨_, bs5, rfl, hbf, hG5.same fun q hq => ?_, nd5, fun q hq => ?_⟩
            · have h9 := rg5 q hq; rw [Below.heap_setCell _ _ _ _ (by show q ≠ w.heap.size + 2; omega), Below.heap_setCell _ _ _ _ (by show q ≠ w.heap.size + 2; omega)]
            · have h9 := rg5 q hq; simp [World.setCell]; omega
end Go.Proofs.Ytoakloicjlfaaaa

/- Layer 14: the edges at a node, in new memory: Around of the program and of the reference. Conditions: the graph is small. -/
namespace Go.Proofs.Ytoakloicjlfaaaa
open Go.RowKit
set_option linter.unusedSimpArgs false
set_option linter.unusedVariables false
set_option maxRecDepth 100000

/-- What comes is a row of those elements, in new memory of its own. -/
def RowOP {α : Type} (R : World → List Value → α → List Nat → Prop) (size : Nat) (l : List α) (w : World) (e : Ending) (w' : World) : Prop :=
  ∃ a c bs, e = .returned (.slice a l.length c) ∧ Below w.heap.size w w' ∧ SlOk a l.length c ∧ OwnRw R size w' a l bs ∧ bs.Nodup ∧ ∀ b ∈ bs, w.heap.size ≤ b ∧ b < w'.heap.size
theorem filter_in {α : Type} {l : List α} {j : Nat} {x : α} {f : α → Bool} (h : l[j]? = some x) (hf : f x = true) : (l.take (j + 1)).filter f = (l.take j).filter f ++ [x] := by
  rw [take_succ_some h, List.filter_append, List.filter_cons_of_pos hf, List.filter_nil]
theorem filter_out {α : Type} {l : List α} {j : Nat} {x : α} {f : α → Bool} (h : l[j]? = some x) (hf : f x = false) : (l.take (j + 1)).filter f = (l.take j).filter f := by
  rw [take_succ_some h, List.filter_append, List.filter_cons_of_neg (by simp [hf]), List.filter_nil, List.append_nil]
theorem RowG.form {α : Type} {R : World → List Value → α → List Nat → Prop} {size : Nat} {ty : TypeId} {B : Nat} {wr : World} {lv : Value} {j : Nat} {cl : List Value} {l : List α} {bs : List Nat} (h : RowG R ty size B wr lv j cl l bs) : ∃ a c, lv = .slice a j c := by
  obtain ⟨a, c, h1, -⟩ := own_cells h.own
  exact ⟨a, c, h1⟩

set_option maxHeartbeats 16000000 in
theorem around_any (g : Gt) (id dir : Int) (ty : ByteArray) (cs : List Value) (B : Nat) (w : World) (hg : IsG B w cs g) (hB : B ≤ w.heap.size) (hsm : SmG g) :
    Calls Try.prog 27 #[.agg cs.toArray, .int .i64 id, .int .i64 dir, .string ty] w (RowOP IsEO 6 (aroundG g id dir ty) w) := by
  obtain ⟨na, nc, ea, ec, rfl, hnz, hez, hN, hE⟩ := hg
  show Calls Try.prog 27 #[.agg #[.slice na g.nodes.length nc, .slice ea g.edges.length ec], .int .i64 id, .int .i64 dir, .string ty] w _
  obtain ⟨⟨hnl, hel⟩, hs1, hs2⟩ := hsm
  obtain ⟨iE, siE, szE, s1E, s2E⟩ := info_parts Try.infoEdge
  obtain ⟨W0, hW0⟩ : ∃ W0, w.alloc (.cells #[.slice na g.nodes.length nc, .slice ea g.edges.length ec] 25) = W0 := ⟨_, rfl⟩
  have hBW : Below w.heap.size w W0 := by rw [← hW0]; exact (Below.refl _ _).alloc (Nat.le_refl _) _
  have hX0 : Block W0 w.heap.size [.slice na g.nodes.length nc, .slice ea g.edges.length ec] 25 := by rw [← hW0]; exact Block.new w _ _
  have hz0 : w.heap.size + 1 = W0.heap.size := by rw [← hW0]; simp
  have HX0 := Lib.hid hX0
  have HBW := Lib.hid hBW
  have HZ0 := Lib.hid hz0
  have HW0 := Lib.hid hW0
  have HES := Lib.hid hE
  have HSM := Lib.hid hs2
  have i1 := hX0.cell (i := 1) rfl
  rw [← hW0] at i1
  obtain ⟨f, hf⟩ : ∃ f, atE id dir ty = f := ⟨_, rfl⟩
  have HFD := Lib.hid hf
  obtain ⟨Q, hQ⟩ : ∃ Q : Ending → World → Prop, RowOP IsEO 6 (aroundG g id dir ty) w = Q := ⟨_, rfl⟩
  have HQ : Hid (RowOP IsEO 6 (g.edges.filter f) w = Q) := Lib.hid (by rw [← hf]; exact hQ)
  rw [hQ]
  have HR0 : Hid (RowG IsEO 40 6 W0.heap.size W0 (.slice none 0 0) 0 [] ((g.edges.take 0).filter f) []) := Lib.hid (by simpa using RowG.nil _ _ _)
  clear hX0 hBW hz0 hW0 hN hE hnz hez hs1 hs2 hf hQ
  go_enter Try.func27, Try.ntmps27
  go_wp2_with fail
  rw [HW0.out]
  clear i1
  go_loopw [9, 15] (fun lv iv wr => ∃ (j m : Nat) (a : Option Addr) (c : Nat) (cl : List Value) (bs : List Nat), lv = .slice a m c ∧ iv = .int .i64 j ∧ j ≤ g.edges.length ∧ m ≤ j ∧ Hid (RowG IsEO 40 6 W0.heap.size wr (.slice a m c) m cl ((g.edges.take j).filter f) bs) ∧ Hid (Below W0.heap.size W0 wr)) (fun _ iv _ => g.edges.length - (intOf iv).toNat)
  case atStart => exact ⟨0, 0, _, _, [], [], rfl, rfl, Nat.zero_le _, Nat.le_refl _, HR0, Lib.hid (Below.refl _ _)⟩
  case round =>
    obtain ⟨j, m, a, c, cl, bs, rfl, rfl, hj, hmj, HRO, HBR⟩ := hrel
    have c1 := (HX0.out.below HBR.out HX0.out.lt).cell (i := 1) rfl
    by_cases hlt : j < g.edges.length
    · have hlt' : (j : Int) < g.edges.length := by omega
      have hj0 : (0 : Int) ≤ (j : Int) := by omega
      have hwi : IntKind.i64.wrap ((j : Int) + 1) = (j : Int) + 1 := IntWalk.i64_in _ (by omega)
      have hzr := HBR.out.size
      have hbr : Below w.heap.size w wr := HBW.out.trans (HBR.out.mono (by have := HZ0.out; omega))
      obtain ⟨x, hx⟩ := get_some hlt
      have hsx := HSM.out j x hx
      have hE2 := HES.out.below hbr hB (fun _ _ h => h.below hbr hB)
      obtain ⟨b, off, cs1, eea, hbB, _, hc, hcell⟩ := hE2.at hx
      obtain ⟨ka, kc, va, vc, rfl⟩ := edge_cells hc
      have k0 : wr.cell? ⟨b, off + j * 6, none⟩ = some (.int .i64 x.id) := hcell 0 _ rfl
      have k1 := hcell 1 _ rfl
      have k2 := hcell 2 _ rfl
      have k3 := hcell 3 _ rfl
      have k4 := hcell 4 _ rfl
      have k5 := hcell 5 _ rfl
      obtain ⟨W1, hW1⟩ : ∃ W1, wr.alloc (.cells #[.int .i64 x.id, .int .i64 x.src, .int .i64 x.dst, .string x.ty, .slice ka x.keys.length kc, .slice va x.vals.length vc] 40) = W1 := ⟨_, rfl⟩
      have hb1 : Below wr.heap.size wr W1 := by rw [← hW1]; exact (Below.refl _ _).alloc (Nat.le_refl _) _
      have hblk : Block W1 wr.heap.size [.int .i64 x.id, .int .i64 x.src, .int .i64 x.dst, .string x.ty, .slice ka x.keys.length kc, .slice va x.vals.length vc] 40 := by rw [← hW1]; exact Block.new _ _ _
      have HCO := Lib.hid (copyEdge_any x _ B W1 (hc.below (B' := w.heap.size) (hb1.mono hbr.size) hB) (Nat.le_trans hB (hbr.trans (hb1.mono hbr.size)).size) hsx)
      have HAT : Hid (f x = (((decide (dir ≠ 1) && decide (x.src = id)) || (decide (dir ≠ 0) && decide (x.dst = id))) && (decide (ty = ⟨#[]⟩) || decide (x.ty = ty)))) := Lib.hid (by rw [← HFD.out]; rfl)
      have HXJ := Lib.hid hx
      have HB1 := Lib.hid hb1
      have m0 : W1.cell? ⟨wr.heap.size, 0, none⟩ = some (.int .i64 x.id) := hblk.cell rfl
      have m1 : W1.cell? ⟨wr.heap.size, 1, none⟩ = some (.int .i64 x.src) := hblk.cell rfl
      have m2 : W1.cell? ⟨wr.heap.size, 2, none⟩ = some (.int .i64 x.dst) := hblk.cell rfl
      have m3 : W1.cell? ⟨wr.heap.size, 3, none⟩ = some (.string x.ty) := hblk.cell rfl
      have m4 : W1.cell? ⟨wr.heap.size, 4, none⟩ = some (.slice ka x.keys.length kc) := hblk.cell rfl
      have m5 : W1.cell? ⟨wr.heap.size, 5, none⟩ = some (.slice va x.vals.length vc) := hblk.cell rfl
      rw [← hW1] at m0 m1 m2 m3 m4 m5
      have HW1 := Lib.hid hW1
      subst eea
      clear hx hsx hE2 hc hcell hb1 hblk hW1 hbr hbB
      generalize x.src = s1 at *
      generalize x.dst = d1 at *
      generalize x.ty = y1 at *
      by_cases h1 : dir = 1
      · subst h1
        by_cases hd : d1 = id
        · subst hd
          by_cases hty : ty = ⟨#[]⟩
          · subst hty
            have HFX : Hid (f x = true) := Lib.hid (by rw [HAT.out]; simp [*])
            go_wp2_with fail
            rw [HW1.out]
            refine HCO.out.mono ?_
            rintro e w2 ⟨cs', bs', rfl, hb2, ho2, hn2, hbs2⟩
            have ho3 := ho2
            obtain ⟨ka', kc', va', vc', q1, q2, rfl, -⟩ := ho3
            have hb2 : Below wr.heap.size wr w2 := HB1.out.trans (hb2.mono HB1.out.size)
            have hbs2 : ∀ b ∈ bs', wr.heap.size ≤ b ∧ b < w2.heap.size := fun b hb => ⟨Nat.le_trans HB1.out.size (hbs2 b hb).1, (hbs2 b hb).2⟩
            have HRO2 := Lib.hid (HRO.out.same ownIsEO hb2)
            have HB2 := Lib.hid hb2
            have HO2 := Lib.hid ho2
            have HN2 := Lib.hid (show _ ∧ _ from ⟨hn2, hbs2⟩)
            have hz2 : W0.heap.size ≤ w2.heap.size := Nat.le_trans hzr hb2.size
            clear hb2 ho2 hn2 hbs2 k0 k1 k2 k3 k4 k5 m0 m1 m2 m3 m4 m5
            generalize x.src = s2 at *
            generalize x.dst = d2 at *
            generalize x.ty = y2 at *
            go_wp2_with (at_builtin; refine wpList_append_lies _ rfl _ _ 23 rfl W0.heap.size 40 iE _ 6 88 Try.underlying23 siE szE s1E s2E rfl (by omega) (.slice a m c) m cl rfl (HRO2.out.own.alloc _) ⟨w2.heap.size, 0, none⟩ 1 1 [.int .i64 x.id, .int .i64 s2, .int .i64 d2, .string y2, .slice ka' x.keys.length kc', .slice va' x.vals.length vc'] rfl rfl (World.news_of_block (cs := #[.int .i64 x.id, .int .i64 s2, .int .i64 d2, .string y2, .slice ka' x.keys.length kc', .slice va' x.vals.length vc']) (t := 40) (fr := (0, 0)) (Block.new w2 [.int .i64 x.id, .int .i64 s2, .int .i64 d2, .string y2, .slice ka' x.keys.length kc', .slice va' x.vals.length vc'] 40)) (by simp [Value.oneCell']) (by omega) (by unfold maxLen; omega) (by omega) (by simp; omega) (w2.heap.size + 1) (by simp) ?_)
            intro g9 cap w3 hown hgrow hat hlt3
            have HROS := Lib.hid (HRO.out.step ownIsEO HB2.out hzr HO2.out HN2.out.1 HN2.out.2 hown hgrow rfl hat)
            have HB3 : Hid (Below W0.heap.size W0 w3) := Lib.hid (Below.grown ((HBR.out.trans (HB2.out.mono hzr)).alloc hz2 _) hgrow (by simp; omega) (fun k e => (HRO2.out.own.lt k e).1))
            clear hown hgrow hat hlt3
            go_wp2_with fail
            go_roundw
            case rel => exact ⟨j + 1, m + 1, _, _, _, _, rfl, by go_num, by omega, by omega, Lib.hid (by rw [filter_in HXJ.out HFX.out]; exact HROS.out), HB3⟩
            case measure => simp [intOf]; omega
          · have t1 : ¬ ty.toList = [] := fun e => hty (by rw [ba_list] at e; obtain ⟨⟨l⟩⟩ := ty; simp at e; subst e; rfl)
            have t2 : ty.toList.isEmpty = false := by cases h : ty.toList with | nil => exact absurd h t1 | cons x l => rfl
            have t3 : (ty.toList == []) = false := by simpa using t1
            by_cases hy : y1 = ty
            · subst hy
              have HFX : Hid (f x = true) := Lib.hid (by rw [HAT.out]; simp [*])
              go_wp2_with fail
              rw [HW1.out]
              refine HCO.out.mono ?_
              rintro e w2 ⟨cs', bs', rfl, hb2, ho2, hn2, hbs2⟩
              have ho3 := ho2
              obtain ⟨ka', kc', va', vc', q1, q2, rfl, -⟩ := ho3
              have hb2 : Below wr.heap.size wr w2 := HB1.out.trans (hb2.mono HB1.out.size)
              have hbs2 : ∀ b ∈ bs', wr.heap.size ≤ b ∧ b < w2.heap.size := fun b hb => ⟨Nat.le_trans HB1.out.size (hbs2 b hb).1, (hbs2 b hb).2⟩
              have HRO2 := Lib.hid (HRO.out.same ownIsEO hb2)
              have HB2 := Lib.hid hb2
              have HO2 := Lib.hid ho2
              have HN2 := Lib.hid (show _ ∧ _ from ⟨hn2, hbs2⟩)
              have hz2 : W0.heap.size ≤ w2.heap.size := Nat.le_trans hzr hb2.size
              clear hb2 ho2 hn2 hbs2 k0 k1 k2 k3 k4 k5 m0 m1 m2 m3 m4 m5
              generalize x.src = s2 at *
              generalize x.dst = d2 at *
              generalize x.ty = y2 at *
              go_wp2_with (at_builtin; refine wpList_append_lies _ rfl _ _ 23 rfl W0.heap.size 40 iE _ 6 88 Try.underlying23 siE szE s1E s2E rfl (by omega) (.slice a m c) m cl rfl (HRO2.out.own.alloc _) ⟨w2.heap.size, 0, none⟩ 1 1 [.int .i64 x.id, .int .i64 s2, .int .i64 d2, .string y2, .slice ka' x.keys.length kc', .slice va' x.vals.length vc'] rfl rfl (World.news_of_block (cs := #[.int .i64 x.id, .int .i64 s2, .int .i64 d2, .string y2, .slice ka' x.keys.length kc', .slice va' x.vals.length vc']) (t := 40) (fr := (0, 0)) (Block.new w2 [.int .i64 x.id, .int .i64 s2, .int .i64 d2, .string y2, .slice ka' x.keys.length kc', .slice va' x.vals.length vc'] 40)) (by simp [Value.oneCell']) (by omega) (by unfold maxLen; omega) (by omega) (by simp; omega) (w2.heap.size + 1) (by simp) ?_)
              intro g9 cap w3 hown hgrow hat hlt3
              have HROS := Lib.hid (HRO.out.step ownIsEO HB2.out hzr HO2.out HN2.out.1 HN2.out.2 hown hgrow rfl hat)
              have HB3 : Hid (Below W0.heap.size W0 w3) := Lib.hid (Below.grown ((HBR.out.trans (HB2.out.mono hzr)).alloc hz2 _) hgrow (by simp; omega) (fun k e => (HRO2.out.own.lt k e).1))
              clear hown hgrow hat hlt3
              go_wp2_with fail
              go_roundw
              case rel => exact ⟨j + 1, m + 1, _, _, _, _, rfl, by go_num, by omega, by omega, Lib.hid (by rw [filter_in HXJ.out HFX.out]; exact HROS.out), HB3⟩
              case measure => simp [intOf]; omega
            · have y1a : (y1.toList == ty.toList) = false := by rw [ba_beq]; simpa using hy
              have y1b : ¬ y1.toList = ty.toList := by simpa using y1a
              have y1c : (ty.toList == y1.toList) = false := by rw [ba_beq]; simpa using (fun e => hy (Eq.symm e))
              have y1d : ¬ ty.toList = y1.toList := by simpa using y1c
              have HFX : Hid (f x = false) := Lib.hid (by rw [HAT.out]; simp [*])
              have HRO3 := Lib.hid (HRO.out.same ownIsEO HB1.out)
              have HB3 : Hid (Below W0.heap.size W0 W1) := Lib.hid (HBR.out.trans (HB1.out.mono hzr))
              go_wp2_with fail
              (try rw [HW1.out])
              go_roundw
              case rel => exact ⟨j + 1, m, _, _, _, _, rfl, by go_num, by omega, by omega, Lib.hid (by rw [filter_out HXJ.out HFX.out]; exact HRO3.out), HB3⟩
              case measure => simp [intOf]; omega
        · skip
          have hd1 : (d1 == id) = false := by simpa using hd
          have hd2 : (d1 != id) = true := by simpa using hd
          have HFX : Hid (f x = false) := Lib.hid (by rw [HAT.out]; simp [*])
          have HRO3 := Lib.hid (HRO.out.same ownIsEO HB1.out)
          have HB3 : Hid (Below W0.heap.size W0 W1) := Lib.hid (HBR.out.trans (HB1.out.mono hzr))
          go_wp2_with fail
          (try rw [HW1.out])
          go_roundw
          case rel => exact ⟨j + 1, m, _, _, _, _, rfl, by go_num, by omega, by omega, Lib.hid (by rw [filter_out HXJ.out HFX.out]; exact HRO3.out), HB3⟩
          case measure => simp [intOf]; omega
      · by_cases h0 : dir = 0
        · subst h0
          by_cases hs : s1 = id
          · subst hs
            by_cases hty : ty = ⟨#[]⟩
            · subst hty
              have HFX : Hid (f x = true) := Lib.hid (by rw [HAT.out]; simp [*])
              go_wp2_with fail
              rw [HW1.out]
              refine HCO.out.mono ?_
              rintro e w2 ⟨cs', bs', rfl, hb2, ho2, hn2, hbs2⟩
              have ho3 := ho2
              obtain ⟨ka', kc', va', vc', q1, q2, rfl, -⟩ := ho3
              have hb2 : Below wr.heap.size wr w2 := HB1.out.trans (hb2.mono HB1.out.size)
              have hbs2 : ∀ b ∈ bs', wr.heap.size ≤ b ∧ b < w2.heap.size := fun b hb => ⟨Nat.le_trans HB1.out.size (hbs2 b hb).1, (hbs2 b hb).2⟩
              have HRO2 := Lib.hid (HRO.out.same ownIsEO hb2)
              have HB2 := Lib.hid hb2
              have HO2 := Lib.hid ho2
              have HN2 := Lib.hid (show _ ∧ _ from ⟨hn2, hbs2⟩)
              have hz2 : W0.heap.size ≤ w2.heap.size := Nat.le_trans hzr hb2.size
              clear hb2 ho2 hn2 hbs2 k0 k1 k2 k3 k4 k5 m0 m1 m2 m3 m4 m5
              generalize x.src = s2 at *
              generalize x.dst = d2 at *
              generalize x.ty = y2 at *
              go_wp2_with (at_builtin; refine wpList_append_lies _ rfl _ _ 23 rfl W0.heap.size 40 iE _ 6 88 Try.underlying23 siE szE s1E s2E rfl (by omega) (.slice a m c) m cl rfl (HRO2.out.own.alloc _) ⟨w2.heap.size, 0, none⟩ 1 1 [.int .i64 x.id, .int .i64 s2, .int .i64 d2, .string y2, .slice ka' x.keys.length kc', .slice va' x.vals.length vc'] rfl rfl (World.news_of_block (cs := #[.int .i64 x.id, .int .i64 s2, .int .i64 d2, .string y2, .slice ka' x.keys.length kc', .slice va' x.vals.length vc']) (t := 40) (fr := (0, 0)) (Block.new w2 [.int .i64 x.id, .int .i64 s2, .int .i64 d2, .string y2, .slice ka' x.keys.length kc', .slice va' x.vals.length vc'] 40)) (by simp [Value.oneCell']) (by omega) (by unfold maxLen; omega) (by omega) (by simp; omega) (w2.heap.size + 1) (by simp) ?_)
              intro g9 cap w3 hown hgrow hat hlt3
              have HROS := Lib.hid (HRO.out.step ownIsEO HB2.out hzr HO2.out HN2.out.1 HN2.out.2 hown hgrow rfl hat)
              have HB3 : Hid (Below W0.heap.size W0 w3) := Lib.hid (Below.grown ((HBR.out.trans (HB2.out.mono hzr)).alloc hz2 _) hgrow (by simp; omega) (fun k e => (HRO2.out.own.lt k e).1))
              clear hown hgrow hat hlt3
              go_wp2_with fail
              go_roundw
              case rel => exact ⟨j + 1, m + 1, _, _, _, _, rfl, by go_num, by omega, by omega, Lib.hid (by rw [filter_in HXJ.out HFX.out]; exact HROS.out), HB3⟩
              case measure => simp [intOf]; omega
            · have t1 : ¬ ty.toList = [] := fun e => hty (by rw [ba_list] at e; obtain ⟨⟨l⟩⟩ := ty; simp at e; subst e; rfl)
              have t2 : ty.toList.isEmpty = false := by cases h : ty.toList with | nil => exact absurd h t1 | cons x l => rfl
              have t3 : (ty.toList == []) = false := by simpa using t1
              by_cases hy : y1 = ty
              · subst hy
                have HFX : Hid (f x = true) := Lib.hid (by rw [HAT.out]; simp [*])
                go_wp2_with fail
                rw [HW1.out]
                refine HCO.out.mono ?_
                rintro e w2 ⟨cs', bs', rfl, hb2, ho2, hn2, hbs2⟩
                have ho3 := ho2
                obtain ⟨ka', kc', va', vc', q1, q2, rfl, -⟩ := ho3
                have hb2 : Below wr.heap.size wr w2 := HB1.out.trans (hb2.mono HB1.out.size)
                have hbs2 : ∀ b ∈ bs', wr.heap.size ≤ b ∧ b < w2.heap.size := fun b hb => ⟨Nat.le_trans HB1.out.size (hbs2 b hb).1, (hbs2 b hb).2⟩
                have HRO2 := Lib.hid (HRO.out.same ownIsEO hb2)
                have HB2 := Lib.hid hb2
                have HO2 := Lib.hid ho2
                have HN2 := Lib.hid (show _ ∧ _ from ⟨hn2, hbs2⟩)
                have hz2 : W0.heap.size ≤ w2.heap.size := Nat.le_trans hzr hb2.size
                clear hb2 ho2 hn2 hbs2 k0 k1 k2 k3 k4 k5 m0 m1 m2 m3 m4 m5
                generalize x.src = s2 at *
                generalize x.dst = d2 at *
                generalize x.ty = y2 at *
                go_wp2_with (at_builtin; refine wpList_append_lies _ rfl _ _ 23 rfl W0.heap.size 40 iE _ 6 88 Try.underlying23 siE szE s1E s2E rfl (by omega) (.slice a m c) m cl rfl (HRO2.out.own.alloc _) ⟨w2.heap.size, 0, none⟩ 1 1 [.int .i64 x.id, .int .i64 s2, .int .i64 d2, .string y2, .slice ka' x.keys.length kc', .slice va' x.vals.length vc'] rfl rfl (World.news_of_block (cs := #[.int .i64 x.id, .int .i64 s2, .int .i64 d2, .string y2, .slice ka' x.keys.length kc', .slice va' x.vals.length vc']) (t := 40) (fr := (0, 0)) (Block.new w2 [.int .i64 x.id, .int .i64 s2, .int .i64 d2, .string y2, .slice ka' x.keys.length kc', .slice va' x.vals.length vc'] 40)) (by simp [Value.oneCell']) (by omega) (by unfold maxLen; omega) (by omega) (by simp; omega) (w2.heap.size + 1) (by simp) ?_)
                intro g9 cap w3 hown hgrow hat hlt3
                have HROS := Lib.hid (HRO.out.step ownIsEO HB2.out hzr HO2.out HN2.out.1 HN2.out.2 hown hgrow rfl hat)
                have HB3 : Hid (Below W0.heap.size W0 w3) := Lib.hid (Below.grown ((HBR.out.trans (HB2.out.mono hzr)).alloc hz2 _) hgrow (by simp; omega) (fun k e => (HRO2.out.own.lt k e).1))
                clear hown hgrow hat hlt3
                go_wp2_with fail
                go_roundw
                case rel => exact ⟨j + 1, m + 1, _, _, _, _, rfl, by go_num, by omega, by omega, Lib.hid (by rw [filter_in HXJ.out HFX.out]; exact HROS.out), HB3⟩
                case measure => simp [intOf]; omega
              · have y1a : (y1.toList == ty.toList) = false := by rw [ba_beq]; simpa using hy
                have y1b : ¬ y1.toList = ty.toList := by simpa using y1a
                have y1c : (ty.toList == y1.toList) = false := by rw [ba_beq]; simpa using (fun e => hy (Eq.symm e))
                have y1d : ¬ ty.toList = y1.toList := by simpa using y1c
                have HFX : Hid (f x = false) := Lib.hid (by rw [HAT.out]; simp [*])
                have HRO3 := Lib.hid (HRO.out.same ownIsEO HB1.out)
                have HB3 : Hid (Below W0.heap.size W0 W1) := Lib.hid (HBR.out.trans (HB1.out.mono hzr))
                go_wp2_with fail
                (try rw [HW1.out])
                go_roundw
                case rel => exact ⟨j + 1, m, _, _, _, _, rfl, by go_num, by omega, by omega, Lib.hid (by rw [filter_out HXJ.out HFX.out]; exact HRO3.out), HB3⟩
                case measure => simp [intOf]; omega
          · skip
            have hs1 : (s1 == id) = false := by simpa using hs
            have hs2 : (s1 != id) = true := by simpa using hs
            have HFX : Hid (f x = false) := Lib.hid (by rw [HAT.out]; simp [*])
            have HRO3 := Lib.hid (HRO.out.same ownIsEO HB1.out)
            have HB3 : Hid (Below W0.heap.size W0 W1) := Lib.hid (HBR.out.trans (HB1.out.mono hzr))
            go_wp2_with fail
            (try rw [HW1.out])
            go_roundw
            case rel => exact ⟨j + 1, m, _, _, _, _, rfl, by go_num, by omega, by omega, Lib.hid (by rw [filter_out HXJ.out HFX.out]; exact HRO3.out), HB3⟩
            case measure => simp [intOf]; omega
        · skip
          have h11 : (dir == 1) = false := by simpa using h1
          have h12 : (dir != 1) = true := by simpa using h1
          have h01 : (dir == 0) = false := by simpa using h0
          have h02 : (dir != 0) = true := by simpa using h0
          by_cases hs : s1 = id
          · subst hs
            by_cases hty : ty = ⟨#[]⟩
            · subst hty
              have HFX : Hid (f x = true) := Lib.hid (by rw [HAT.out]; simp [*])
              go_wp2_with fail
              rw [HW1.out]
              refine HCO.out.mono ?_
              rintro e w2 ⟨cs', bs', rfl, hb2, ho2, hn2, hbs2⟩
              have ho3 := ho2
              obtain ⟨ka', kc', va', vc', q1, q2, rfl, -⟩ := ho3
              have hb2 : Below wr.heap.size wr w2 := HB1.out.trans (hb2.mono HB1.out.size)
              have hbs2 : ∀ b ∈ bs', wr.heap.size ≤ b ∧ b < w2.heap.size := fun b hb => ⟨Nat.le_trans HB1.out.size (hbs2 b hb).1, (hbs2 b hb).2⟩
              have HRO2 := Lib.hid (HRO.out.same ownIsEO hb2)
              have HB2 := Lib.hid hb2
              have HO2 := Lib.hid ho2
              have HN2 := Lib.hid (show _ ∧ _ from ⟨hn2, hbs2⟩)
              have hz2 : W0.heap.size ≤ w2.heap.size := Nat.le_trans hzr hb2.size
              clear hb2 ho2 hn2 hbs2 k0 k1 k2 k3 k4 k5 m0 m1 m2 m3 m4 m5
              generalize x.src = s2 at *
              generalize x.dst = d2 at *
              generalize x.ty = y2 at *
              go_wp2_with (at_builtin; refine wpList_append_lies _ rfl _ _ 23 rfl W0.heap.size 40 iE _ 6 88 Try.underlying23 siE szE s1E s2E rfl (by omega) (.slice a m c) m cl rfl (HRO2.out.own.alloc _) ⟨w2.heap.size, 0, none⟩ 1 1 [.int .i64 x.id, .int .i64 s2, .int .i64 d2, .string y2, .slice ka' x.keys.length kc', .slice va' x.vals.length vc'] rfl rfl (World.news_of_block (cs := #[.int .i64 x.id, .int .i64 s2, .int .i64 d2, .string y2, .slice ka' x.keys.length kc', .slice va' x.vals.length vc']) (t := 40) (fr := (0, 0)) (Block.new w2 [.int .i64 x.id, .int .i64 s2, .int .i64 d2, .string y2, .slice ka' x.keys.length kc', .slice va' x.vals.length vc'] 40)) (by simp [Value.oneCell']) (by omega) (by unfold maxLen; omega) (by omega) (by simp; omega) (w2.heap.size + 1) (by simp) ?_)
              intro g9 cap w3 hown hgrow hat hlt3
              have HROS := Lib.hid (HRO.out.step ownIsEO HB2.out hzr HO2.out HN2.out.1 HN2.out.2 hown hgrow rfl hat)
              have HB3 : Hid (Below W0.heap.size W0 w3) := Lib.hid (Below.grown ((HBR.out.trans (HB2.out.mono hzr)).alloc hz2 _) hgrow (by simp; omega) (fun k e => (HRO2.out.own.lt k e).1))
              clear hown hgrow hat hlt3
              go_wp2_with fail
              go_roundw
              case rel => exact ⟨j + 1, m + 1, _, _, _, _, rfl, by go_num, by omega, by omega, Lib.hid (by rw [filter_in HXJ.out HFX.out]; exact HROS.out), HB3⟩
              case measure => simp [intOf]; omega
            · have t1 : ¬ ty.toList = [] := fun e => hty (by rw [ba_list] at e; obtain ⟨⟨l⟩⟩ := ty; simp at e; subst e; rfl)
              have t2 : ty.toList.isEmpty = false := by cases h : ty.toList with | nil => exact absurd h t1 | cons x l => rfl
              have t3 : (ty.toList == []) = false := by simpa using t1
              by_cases hy : y1 = ty
              · subst hy
                have HFX : Hid (f x = true) := Lib.hid (by rw [HAT.out]; simp [*])
                go_wp2_with fail
                rw [HW1.out]
                refine HCO.out.mono ?_
                rintro e w2 ⟨cs', bs', rfl, hb2, ho2, hn2, hbs2⟩
                have ho3 := ho2
                obtain ⟨ka', kc', va', vc', q1, q2, rfl, -⟩ := ho3
                have hb2 : Below wr.heap.size wr w2 := HB1.out.trans (hb2.mono HB1.out.size)
                have hbs2 : ∀ b ∈ bs', wr.heap.size ≤ b ∧ b < w2.heap.size := fun b hb => ⟨Nat.le_trans HB1.out.size (hbs2 b hb).1, (hbs2 b hb).2⟩
                have HRO2 := Lib.hid (HRO.out.same ownIsEO hb2)
                have HB2 := Lib.hid hb2
                have HO2 := Lib.hid ho2
                have HN2 := Lib.hid (show _ ∧ _ from ⟨hn2, hbs2⟩)
                have hz2 : W0.heap.size ≤ w2.heap.size := Nat.le_trans hzr hb2.size
                clear hb2 ho2 hn2 hbs2 k0 k1 k2 k3 k4 k5 m0 m1 m2 m3 m4 m5
                generalize x.src = s2 at *
                generalize x.dst = d2 at *
                generalize x.ty = y2 at *
                go_wp2_with (at_builtin; refine wpList_append_lies _ rfl _ _ 23 rfl W0.heap.size 40 iE _ 6 88 Try.underlying23 siE szE s1E s2E rfl (by omega) (.slice a m c) m cl rfl (HRO2.out.own.alloc _) ⟨w2.heap.size, 0, none⟩ 1 1 [.int .i64 x.id, .int .i64 s2, .int .i64 d2, .string y2, .slice ka' x.keys.length kc', .slice va' x.vals.length vc'] rfl rfl (World.news_of_block (cs := #[.int .i64 x.id, .int .i64 s2, .int .i64 d2, .string y2, .slice ka' x.keys.length kc', .slice va' x.vals.length vc']) (t := 40) (fr := (0, 0)) (Block.new w2 [.int .i64 x.id, .int .i64 s2, .int .i64 d2, .string y2, .slice ka' x.keys.length kc', .slice va' x.vals.length vc'] 40)) (by simp [Value.oneCell']) (by omega) (by unfold maxLen; omega) (by omega) (by simp; omega) (w2.heap.size + 1) (by simp) ?_)
                intro g9 cap w3 hown hgrow hat hlt3
                have HROS := Lib.hid (HRO.out.step ownIsEO HB2.out hzr HO2.out HN2.out.1 HN2.out.2 hown hgrow rfl hat)
                have HB3 : Hid (Below W0.heap.size W0 w3) := Lib.hid (Below.grown ((HBR.out.trans (HB2.out.mono hzr)).alloc hz2 _) hgrow (by simp; omega) (fun k e => (HRO2.out.own.lt k e).1))
                clear hown hgrow hat hlt3
                go_wp2_with fail
                go_roundw
                case rel => exact ⟨j + 1, m + 1, _, _, _, _, rfl, by go_num, by omega, by omega, Lib.hid (by rw [filter_in HXJ.out HFX.out]; exact HROS.out), HB3⟩
                case measure => simp [intOf]; omega
              · have y1a : (y1.toList == ty.toList) = false := by rw [ba_beq]; simpa using hy
                have y1b : ¬ y1.toList = ty.toList := by simpa using y1a
                have y1c : (ty.toList == y1.toList) = false := by rw [ba_beq]; simpa using (fun e => hy (Eq.symm e))
                have y1d : ¬ ty.toList = y1.toList := by simpa using y1c
                have HFX : Hid (f x = false) := Lib.hid (by rw [HAT.out]; simp [*])
                have HRO3 := Lib.hid (HRO.out.same ownIsEO HB1.out)
                have HB3 : Hid (Below W0.heap.size W0 W1) := Lib.hid (HBR.out.trans (HB1.out.mono hzr))
                go_wp2_with fail
                (try rw [HW1.out])
                go_roundw
                case rel => exact ⟨j + 1, m, _, _, _, _, rfl, by go_num, by omega, by omega, Lib.hid (by rw [filter_out HXJ.out HFX.out]; exact HRO3.out), HB3⟩
                case measure => simp [intOf]; omega
          · skip
            have hs1 : (s1 == id) = false := by simpa using hs
            have hs2 : (s1 != id) = true := by simpa using hs
            by_cases hd : d1 = id
            · subst hd
              by_cases hty : ty = ⟨#[]⟩
              · subst hty
                have HFX : Hid (f x = true) := Lib.hid (by rw [HAT.out]; simp [*])
                go_wp2_with fail
                rw [HW1.out]
                refine HCO.out.mono ?_
                rintro e w2 ⟨cs', bs', rfl, hb2, ho2, hn2, hbs2⟩
                have ho3 := ho2
                obtain ⟨ka', kc', va', vc', q1, q2, rfl, -⟩ := ho3
                have hb2 : Below wr.heap.size wr w2 := HB1.out.trans (hb2.mono HB1.out.size)
                have hbs2 : ∀ b ∈ bs', wr.heap.size ≤ b ∧ b < w2.heap.size := fun b hb => ⟨Nat.le_trans HB1.out.size (hbs2 b hb).1, (hbs2 b hb).2⟩
                have HRO2 := Lib.hid (HRO.out.same ownIsEO hb2)
                have HB2 := Lib.hid hb2
                have HO2 := Lib.hid ho2
                have HN2 := Lib.hid (show _ ∧ _ from ⟨hn2, hbs2⟩)
                have hz2 : W0.heap.size ≤ w2.heap.size := Nat.le_trans hzr hb2.size
                clear hb2 ho2 hn2 hbs2 k0 k1 k2 k3 k4 k5 m0 m1 m2 m3 m4 m5
                generalize x.src = s2 at *
                generalize x.dst = d2 at *
                generalize x.ty = y2 at *
                go_wp2_with (at_builtin; refine wpList_append_lies _ rfl _ _ 23 rfl W0.heap.size 40 iE _ 6 88 Try.underlying23 siE szE s1E s2E rfl (by omega) (.slice a m c) m cl rfl (HRO2.out.own.alloc _) ⟨w2.heap.size, 0, none⟩ 1 1 [.int .i64 x.id, .int .i64 s2, .int .i64 d2, .string y2, .slice ka' x.keys.length kc', .slice va' x.vals.length vc'] rfl rfl (World.news_of_block (cs := #[.int .i64 x.id, .int .i64 s2, .int .i64 d2, .string y2, .slice ka' x.keys.length kc', .slice va' x.vals.length vc']) (t := 40) (fr := (0, 0)) (Block.new w2 [.int .i64 x.id, .int .i64 s2, .int .i64 d2, .string y2, .slice ka' x.keys.length kc', .slice va' x.vals.length vc'] 40)) (by simp [Value.oneCell']) (by omega) (by unfold maxLen; omega) (by omega) (by simp; omega) (w2.heap.size + 1) (by simp) ?_)
                intro g9 cap w3 hown hgrow hat hlt3
                have HROS := Lib.hid (HRO.out.step ownIsEO HB2.out hzr HO2.out HN2.out.1 HN2.out.2 hown hgrow rfl hat)
                have HB3 : Hid (Below W0.heap.size W0 w3) := Lib.hid (Below.grown ((HBR.out.trans (HB2.out.mono hzr)).alloc hz2 _) hgrow (by simp; omega) (fun k e => (HRO2.out.own.lt k e).1))
                clear hown hgrow hat hlt3
                go_wp2_with fail
                go_roundw
                case rel => exact ⟨j + 1, m + 1, _, _, _, _, rfl, by go_num, by omega, by omega, Lib.hid (by rw [filter_in HXJ.out HFX.out]; exact HROS.out), HB3⟩
                case measure => simp [intOf]; omega
              · have t1 : ¬ ty.toList = [] := fun e => hty (by rw [ba_list] at e; obtain ⟨⟨l⟩⟩ := ty; simp at e; subst e; rfl)
                have t2 : ty.toList.isEmpty = false := by cases h : ty.toList with | nil => exact absurd h t1 | cons x l => rfl
                have t3 : (ty.toList == []) = false := by simpa using t1
                by_cases hy : y1 = ty
                · subst hy
                  have HFX : Hid (f x = true) := Lib.hid (by rw [HAT.out]; simp [*])
                  go_wp2_with fail
                  rw [HW1.out]
                  refine HCO.out.mono ?_
                  rintro e w2 ⟨cs', bs', rfl, hb2, ho2, hn2, hbs2⟩
                  have ho3 := ho2
                  obtain ⟨ka', kc', va', vc', q1, q2, rfl, -⟩ := ho3
                  have hb2 : Below wr.heap.size wr w2 := HB1.out.trans (hb2.mono HB1.out.size)
                  have hbs2 : ∀ b ∈ bs', wr.heap.size ≤ b ∧ b < w2.heap.size := fun b hb => ⟨Nat.le_trans HB1.out.size (hbs2 b hb).1, (hbs2 b hb).2⟩
                  have HRO2 := Lib.hid (HRO.out.same ownIsEO hb2)
                  have HB2 := Lib.hid hb2
                  have HO2 := Lib.hid ho2
                  have HN2 := Lib.hid (show _ ∧ _ from ⟨hn2, hbs2⟩)
                  have hz2 : W0.heap.size ≤ w2.heap.size := Nat.le_trans hzr hb2.size
                  clear hb2 ho2 hn2 hbs2 k0 k1 k2 k3 k4 k5 m0 m1 m2 m3 m4 m5
                  generalize x.src = s2 at *
                  generalize x.dst = d2 at *
                  generalize x.ty = y2 at *
                  go_wp2_with (at_builtin; refine wpList_append_lies _ rfl _ _ 23 rfl W0.heap.size 40 iE _ 6 88 Try.underlying23 siE szE s1E s2E rfl (by omega) (.slice a m c) m cl rfl (HRO2.out.own.alloc _) ⟨w2.heap.size, 0, none⟩ 1 1 [.int .i64 x.id, .int .i64 s2, .int .i64 d2, .string y2, .slice ka' x.keys.length kc', .slice va' x.vals.length vc'] rfl rfl (World.news_of_block (cs := #[.int .i64 x.id, .int .i64 s2, .int .i64 d2, .string y2, .slice ka' x.keys.length kc', .slice va' x.vals.length vc']) (t := 40) (fr := (0, 0)) (Block.new w2 [.int .i64 x.id, .int .i64 s2, .int .i64 d2, .string y2, .slice ka' x.keys.length kc', .slice va' x.vals.length vc'] 40)) (by simp [Value.oneCell']) (by omega) (by unfold maxLen; omega) (by omega) (by simp; omega) (w2.heap.size + 1) (by simp) ?_)
                  intro g9 cap w3 hown hgrow hat hlt3
                  have HROS := Lib.hid (HRO.out.step ownIsEO HB2.out hzr HO2.out HN2.out.1 HN2.out.2 hown hgrow rfl hat)
                  have HB3 : Hid (Below W0.heap.size W0 w3) := Lib.hid (Below.grown ((HBR.out.trans (HB2.out.mono hzr)).alloc hz2 _) hgrow (by simp; omega) (fun k e => (HRO2.out.own.lt k e).1))
                  clear hown hgrow hat hlt3
                  go_wp2_with fail
                  go_roundw
                  case rel => exact ⟨j + 1, m + 1, _, _, _, _, rfl, by go_num, by omega, by omega, Lib.hid (by rw [filter_in HXJ.out HFX.out]; exact HROS.out), HB3⟩
                  case measure => simp [intOf]; omega
                · have y1a : (y1.toList == ty.toList) = false := by rw [ba_beq]; simpa using hy
                  have y1b : ¬ y1.toList = ty.toList := by simpa using y1a
                  have y1c : (ty.toList == y1.toList) = false := by rw [ba_beq]; simpa using (fun e => hy (Eq.symm e))
                  have y1d : ¬ ty.toList = y1.toList := by simpa using y1c
                  have HFX : Hid (f x = false) := Lib.hid (by rw [HAT.out]; simp [*])
                  have HRO3 := Lib.hid (HRO.out.same ownIsEO HB1.out)
                  have HB3 : Hid (Below W0.heap.size W0 W1) := Lib.hid (HBR.out.trans (HB1.out.mono hzr))
                  go_wp2_with fail
                  (try rw [HW1.out])
                  go_roundw
                  case rel => exact ⟨j + 1, m, _, _, _, _, rfl, by go_num, by omega, by omega, Lib.hid (by rw [filter_out HXJ.out HFX.out]; exact HRO3.out), HB3⟩
                  case measure => simp [intOf]; omega
            · skip
              have hd1 : (d1 == id) = false := by simpa using hd
              have hd2 : (d1 != id) = true := by simpa using hd
              have HFX : Hid (f x = false) := Lib.hid (by rw [HAT.out]; simp [*])
              have HRO3 := Lib.hid (HRO.out.same ownIsEO HB1.out)
              have HB3 : Hid (Below W0.heap.size W0 W1) := Lib.hid (HBR.out.trans (HB1.out.mono hzr))
              go_wp2_with fail
              (try rw [HW1.out])
              go_roundw
              case rel => exact ⟨j + 1, m, _, _, _, _, rfl, by go_num, by omega, by omega, Lib.hid (by rw [filter_out HXJ.out HFX.out]; exact HRO3.out), HB3⟩
              case measure => simp [intOf]; omega
    · have hlt' : ¬ (j : Int) < g.edges.length := by omega
      have HRN : Hid (RowG IsEO 40 6 W0.heap.size wr (.slice a m c) m cl (g.edges.filter f) bs) := Lib.hid (by have := HRO.out; rwa [List.take_of_length_le (by omega)] at this)
      obtain ⟨la9, lc9, b29, hv9, hc9, hp9, hn9, hr9⟩ := HRN.out.part ownIsEO
      injection hv9 with e1 e2 e3
      subst e1 e3
      have hml := HRN.out.len
      have HFIN : Hid (Q (.returned (.slice a m c)) wr) := Lib.hid (by
        rw [← HQ.out]
        subst hml
        exact ⟨a, c, b29, rfl, HBW.out.trans (HBR.out.mono (by have := HZ0.out; omega)), hc9, hp9, hn9, fun q hq => ⟨by have := (hr9 q hq).1; have := HZ0.out; omega, (hr9 q hq).2⟩⟩)
      clear hc9 hp9 hn9 hr9 hml
      go_wp2_with fail
      exact HFIN.out

set_option maxHeartbeats 16000000 in
theorem rAround_any (g : Gt) (id dir : Int) (ty : ByteArray) (cs : List Value) (B : Nat) (w : World) (hg : IsG B w cs g) (hB : B ≤ w.heap.size) (hsm : SmG g) :
    Calls Try.prog 29 #[.agg cs.toArray, .int .i64 id, .int .i64 dir, .string ty] w (RowOP IsEO 6 (aroundG g id dir ty) w) := by
  obtain ⟨na, nc, ea, ec, rfl, hnz, hez, hN, hE⟩ := hg
  show Calls Try.prog 29 #[.agg #[.slice na g.nodes.length nc, .slice ea g.edges.length ec], .int .i64 id, .int .i64 dir, .string ty] w _
  obtain ⟨⟨hnl, hel⟩, hs1, hs2⟩ := hsm
  obtain ⟨iE, siE, szE, s1E, s2E⟩ := info_parts Try.infoEdge
  obtain ⟨W0, hW0⟩ : ∃ W0, w.alloc (.cells #[.slice na g.nodes.length nc, .slice ea g.edges.length ec] 25) = W0 := ⟨_, rfl⟩
  have hBW : Below w.heap.size w W0 := by rw [← hW0]; exact (Below.refl _ _).alloc (Nat.le_refl _) _
  have hX0 : Block W0 w.heap.size [.slice na g.nodes.length nc, .slice ea g.edges.length ec] 25 := by rw [← hW0]; exact Block.new w _ _
  have hz0 : w.heap.size + 1 = W0.heap.size := by rw [← hW0]; simp
  have HX0 := Lib.hid hX0
  have HBW := Lib.hid hBW
  have HZ0 := Lib.hid hz0
  have HW0 := Lib.hid hW0
  have HES := Lib.hid hE
  have HSM := Lib.hid hs2
  have i1 := hX0.cell (i := 1) rfl
  rw [← hW0] at i1
  obtain ⟨f, hf⟩ : ∃ f, atE id dir ty = f := ⟨_, rfl⟩
  have HFD := Lib.hid hf
  obtain ⟨Q, hQ⟩ : ∃ Q : Ending → World → Prop, RowOP IsEO 6 (aroundG g id dir ty) w = Q := ⟨_, rfl⟩
  have HQ : Hid (RowOP IsEO 6 (g.edges.filter f) w = Q) := Lib.hid (by rw [← hf]; exact hQ)
  rw [hQ]
  have HR0 : Hid (RowG IsEO 40 6 W0.heap.size W0 (.slice none 0 0) 0 [] ((g.edges.take 0).filter f) []) := Lib.hid (by simpa using RowG.nil _ _ _)
  clear hX0 hBW hz0 hW0 hN hE hnz hez hs1 hs2 hf hQ
  go_enter Try.func29, Try.ntmps29
  go_wp2_with fail
  rw [HW0.out]
  clear i1
  go_loopw [9, 10] (fun lv iv wr => ∃ (j m : Nat) (a : Option Addr) (c : Nat) (cl : List Value) (bs : List Nat), lv = .slice a m c ∧ iv = .int .i64 j ∧ j ≤ g.edges.length ∧ m ≤ j ∧ Hid (RowG IsEO 40 6 W0.heap.size wr (.slice a m c) m cl ((g.edges.take j).filter f) bs) ∧ Hid (Below W0.heap.size W0 wr)) (fun _ iv _ => g.edges.length - (intOf iv).toNat)
  case atStart => exact ⟨0, 0, _, _, [], [], rfl, rfl, Nat.zero_le _, Nat.le_refl _, HR0, Lib.hid (Below.refl _ _)⟩
  case round =>
    obtain ⟨j, m, a, c, cl, bs, rfl, rfl, hj, hmj, HRO, HBR⟩ := hrel
    have c1 := (HX0.out.below HBR.out HX0.out.lt).cell (i := 1) rfl
    by_cases hlt : j < g.edges.length
    · have hlt' : (j : Int) < g.edges.length := by omega
      have hj0 : (0 : Int) ≤ (j : Int) := by omega
      have hwi : IntKind.i64.wrap ((j : Int) + 1) = (j : Int) + 1 := IntWalk.i64_in _ (by omega)
      have hzr := HBR.out.size
      have hbr : Below w.heap.size w wr := HBW.out.trans (HBR.out.mono (by have := HZ0.out; omega))
      obtain ⟨x, hx⟩ := get_some hlt
      have hsx := HSM.out j x hx
      have hE2 := HES.out.below hbr hB (fun _ _ h => h.below hbr hB)
      obtain ⟨b, off, cs1, eea, hbB, _, hc, hcell⟩ := hE2.at hx
      obtain ⟨ka, kc, va, vc, rfl⟩ := edge_cells hc
      have k0 : wr.cell? ⟨b, off + j * 6, none⟩ = some (.int .i64 x.id) := hcell 0 _ rfl
      have k1 := hcell 1 _ rfl
      have k2 := hcell 2 _ rfl
      have k3 := hcell 3 _ rfl
      have k4 := hcell 4 _ rfl
      have k5 := hcell 5 _ rfl
      obtain ⟨W1, hW1⟩ : ∃ W1, wr.alloc (.cells #[.int .i64 x.id, .int .i64 x.src, .int .i64 x.dst, .string x.ty, .slice ka x.keys.length kc, .slice va x.vals.length vc] 40) = W1 := ⟨_, rfl⟩
      have hb1 : Below wr.heap.size wr W1 := by rw [← hW1]; exact (Below.refl _ _).alloc (Nat.le_refl _) _
      have hblk : Block W1 wr.heap.size [.int .i64 x.id, .int .i64 x.src, .int .i64 x.dst, .string x.ty, .slice ka x.keys.length kc, .slice va x.vals.length vc] 40 := by rw [← hW1]; exact Block.new _ _ _
      have HCO := Lib.hid (rCopyEdge_any x _ B W1 (hc.below (B' := w.heap.size) (hb1.mono hbr.size) hB) (Nat.le_trans hB (hbr.trans (hb1.mono hbr.size)).size) hsx)
      have HAT : Hid (f x = (((decide (dir ≠ 1) && decide (x.src = id)) || (decide (dir ≠ 0) && decide (x.dst = id))) && (decide (ty = ⟨#[]⟩) || decide (x.ty = ty)))) := Lib.hid (by rw [← HFD.out]; rfl)
      have HXJ := Lib.hid hx
      have HB1 := Lib.hid hb1
      have m0 : W1.cell? ⟨wr.heap.size, 0, none⟩ = some (.int .i64 x.id) := hblk.cell rfl
      have m1 : W1.cell? ⟨wr.heap.size, 1, none⟩ = some (.int .i64 x.src) := hblk.cell rfl
      have m2 : W1.cell? ⟨wr.heap.size, 2, none⟩ = some (.int .i64 x.dst) := hblk.cell rfl
      have m3 : W1.cell? ⟨wr.heap.size, 3, none⟩ = some (.string x.ty) := hblk.cell rfl
      have m4 : W1.cell? ⟨wr.heap.size, 4, none⟩ = some (.slice ka x.keys.length kc) := hblk.cell rfl
      have m5 : W1.cell? ⟨wr.heap.size, 5, none⟩ = some (.slice va x.vals.length vc) := hblk.cell rfl
      rw [← hW1] at m0 m1 m2 m3 m4 m5
      have HW1 := Lib.hid hW1
      subst eea
      clear hx hsx hE2 hc hcell hb1 hblk hW1 hbr hbB
      generalize x.src = s1 at *
      generalize x.dst = d1 at *
      generalize x.ty = y1 at *
      by_cases h1 : dir = 1
      · subst h1
        by_cases hs : s1 = id
        · subst hs
          by_cases hd : d1 = s1
          · subst hd
            by_cases hty : ty = ⟨#[]⟩
            · subst hty
              have HFX : Hid (f x = true) := Lib.hid (by rw [HAT.out]; simp [*])
              go_wp2_with fail
              rw [HW1.out]
              refine HCO.out.mono ?_
              rintro e w2 ⟨cs', bs', rfl, hb2, ho2, hn2, hbs2⟩
              have ho3 := ho2
              obtain ⟨ka', kc', va', vc', q1, q2, rfl, -⟩ := ho3
              have hb2 : Below wr.heap.size wr w2 := HB1.out.trans (hb2.mono HB1.out.size)
              have hbs2 : ∀ b ∈ bs', wr.heap.size ≤ b ∧ b < w2.heap.size := fun b hb => ⟨Nat.le_trans HB1.out.size (hbs2 b hb).1, (hbs2 b hb).2⟩
              have HRO2 := Lib.hid (HRO.out.same ownIsEO hb2)
              have HB2 := Lib.hid hb2
              have HO2 := Lib.hid ho2
              have HN2 := Lib.hid (show _ ∧ _ from ⟨hn2, hbs2⟩)
              have hz2 : W0.heap.size ≤ w2.heap.size := Nat.le_trans hzr hb2.size
              clear hb2 ho2 hn2 hbs2 k0 k1 k2 k3 k4 k5 m0 m1 m2 m3 m4 m5
              generalize x.src = s2 at *
              generalize x.dst = d2 at *
              generalize x.ty = y2 at *
              go_wp2_with (at_builtin; refine wpList_append_lies _ rfl _ _ 23 rfl W0.heap.size 40 iE _ 6 88 Try.underlying23 siE szE s1E s2E rfl (by omega) (.slice a m c) m cl rfl (HRO2.out.own.alloc _) ⟨w2.heap.size, 0, none⟩ 1 1 [.int .i64 x.id, .int .i64 s2, .int .i64 d2, .string y2, .slice ka' x.keys.length kc', .slice va' x.vals.length vc'] rfl rfl (World.news_of_block (cs := #[.int .i64 x.id, .int .i64 s2, .int .i64 d2, .string y2, .slice ka' x.keys.length kc', .slice va' x.vals.length vc']) (t := 40) (fr := (0, 0)) (Block.new w2 [.int .i64 x.id, .int .i64 s2, .int .i64 d2, .string y2, .slice ka' x.keys.length kc', .slice va' x.vals.length vc'] 40)) (by simp [Value.oneCell']) (by omega) (by unfold maxLen; omega) (by omega) (by simp; omega) (w2.heap.size + 1) (by simp) ?_)
              intro g9 cap w3 hown hgrow hat hlt3
              have HROS := Lib.hid (HRO.out.step ownIsEO HB2.out hzr HO2.out HN2.out.1 HN2.out.2 hown hgrow rfl hat)
              have HB3 : Hid (Below W0.heap.size W0 w3) := Lib.hid (Below.grown ((HBR.out.trans (HB2.out.mono hzr)).alloc hz2 _) hgrow (by simp; omega) (fun k e => (HRO2.out.own.lt k e).1))
              clear hown hgrow hat hlt3
              go_wp2_with fail
              go_roundw
              case rel => exact ⟨j + 1, m + 1, _, _, _, _, rfl, by go_num, by omega, by omega, Lib.hid (by rw [filter_in HXJ.out HFX.out]; exact HROS.out), HB3⟩
              case measure => simp [intOf]; omega
            · have t1 : ¬ ty.toList = [] := fun e => hty (by rw [ba_list] at e; obtain ⟨⟨l⟩⟩ := ty; simp at e; subst e; rfl)
              have t2 : ty.toList.isEmpty = false := by cases h : ty.toList with | nil => exact absurd h t1 | cons x l => rfl
              have t3 : (ty.toList == []) = false := by simpa using t1
              by_cases hy : y1 = ty
              · subst hy
                have HFX : Hid (f x = true) := Lib.hid (by rw [HAT.out]; simp [*])
                go_wp2_with fail
                rw [HW1.out]
                refine HCO.out.mono ?_
                rintro e w2 ⟨cs', bs', rfl, hb2, ho2, hn2, hbs2⟩
                have ho3 := ho2
                obtain ⟨ka', kc', va', vc', q1, q2, rfl, -⟩ := ho3
                have hb2 : Below wr.heap.size wr w2 := HB1.out.trans (hb2.mono HB1.out.size)
                have hbs2 : ∀ b ∈ bs', wr.heap.size ≤ b ∧ b < w2.heap.size := fun b hb => ⟨Nat.le_trans HB1.out.size (hbs2 b hb).1, (hbs2 b hb).2⟩
                have HRO2 := Lib.hid (HRO.out.same ownIsEO hb2)
                have HB2 := Lib.hid hb2
                have HO2 := Lib.hid ho2
                have HN2 := Lib.hid (show _ ∧ _ from ⟨hn2, hbs2⟩)
                have hz2 : W0.heap.size ≤ w2.heap.size := Nat.le_trans hzr hb2.size
                clear hb2 ho2 hn2 hbs2 k0 k1 k2 k3 k4 k5 m0 m1 m2 m3 m4 m5
                generalize x.src = s2 at *
                generalize x.dst = d2 at *
                generalize x.ty = y2 at *
                go_wp2_with (at_builtin; refine wpList_append_lies _ rfl _ _ 23 rfl W0.heap.size 40 iE _ 6 88 Try.underlying23 siE szE s1E s2E rfl (by omega) (.slice a m c) m cl rfl (HRO2.out.own.alloc _) ⟨w2.heap.size, 0, none⟩ 1 1 [.int .i64 x.id, .int .i64 s2, .int .i64 d2, .string y2, .slice ka' x.keys.length kc', .slice va' x.vals.length vc'] rfl rfl (World.news_of_block (cs := #[.int .i64 x.id, .int .i64 s2, .int .i64 d2, .string y2, .slice ka' x.keys.length kc', .slice va' x.vals.length vc']) (t := 40) (fr := (0, 0)) (Block.new w2 [.int .i64 x.id, .int .i64 s2, .int .i64 d2, .string y2, .slice ka' x.keys.length kc', .slice va' x.vals.length vc'] 40)) (by simp [Value.oneCell']) (by omega) (by unfold maxLen; omega) (by omega) (by simp; omega) (w2.heap.size + 1) (by simp) ?_)
                intro g9 cap w3 hown hgrow hat hlt3
                have HROS := Lib.hid (HRO.out.step ownIsEO HB2.out hzr HO2.out HN2.out.1 HN2.out.2 hown hgrow rfl hat)
                have HB3 : Hid (Below W0.heap.size W0 w3) := Lib.hid (Below.grown ((HBR.out.trans (HB2.out.mono hzr)).alloc hz2 _) hgrow (by simp; omega) (fun k e => (HRO2.out.own.lt k e).1))
                clear hown hgrow hat hlt3
                go_wp2_with fail
                go_roundw
                case rel => exact ⟨j + 1, m + 1, _, _, _, _, rfl, by go_num, by omega, by omega, Lib.hid (by rw [filter_in HXJ.out HFX.out]; exact HROS.out), HB3⟩
                case measure => simp [intOf]; omega
              · have y1a : (y1.toList == ty.toList) = false := by rw [ba_beq]; simpa using hy
                have y1b : ¬ y1.toList = ty.toList := by simpa using y1a
                have y1c : (ty.toList == y1.toList) = false := by rw [ba_beq]; simpa using (fun e => hy (Eq.symm e))
                have y1d : ¬ ty.toList = y1.toList := by simpa using y1c
                have HFX : Hid (f x = false) := Lib.hid (by rw [HAT.out]; simp [*])
                have HRO3 := Lib.hid (HRO.out.same ownIsEO HB1.out)
                have HB3 : Hid (Below W0.heap.size W0 W1) := Lib.hid (HBR.out.trans (HB1.out.mono hzr))
                go_wp2_with fail
                (try rw [HW1.out])
                go_roundw
                case rel => exact ⟨j + 1, m, _, _, _, _, rfl, by go_num, by omega, by omega, Lib.hid (by rw [filter_out HXJ.out HFX.out]; exact HRO3.out), HB3⟩
                case measure => simp [intOf]; omega
          · skip
            have hd1 : (d1 == s1) = false := by simpa using hd
            have hd2 : (d1 != s1) = true := by simpa using hd
            have HFX : Hid (f x = false) := Lib.hid (by rw [HAT.out]; simp [*])
            have HRO3 := Lib.hid (HRO.out.same ownIsEO HB1.out)
            have HB3 : Hid (Below W0.heap.size W0 W1) := Lib.hid (HBR.out.trans (HB1.out.mono hzr))
            go_wp2_with fail
            (try rw [HW1.out])
            go_roundw
            case rel => exact ⟨j + 1, m, _, _, _, _, rfl, by go_num, by omega, by omega, Lib.hid (by rw [filter_out HXJ.out HFX.out]; exact HRO3.out), HB3⟩
            case measure => simp [intOf]; omega
        · skip
          have hs1 : (s1 == id) = false := by simpa using hs
          have hs2 : (s1 != id) = true := by simpa using hs
          by_cases hd : d1 = id
          · subst hd
            by_cases hty : ty = ⟨#[]⟩
            · subst hty
              have HFX : Hid (f x = true) := Lib.hid (by rw [HAT.out]; simp [*])
              go_wp2_with fail
              rw [HW1.out]
              refine HCO.out.mono ?_
              rintro e w2 ⟨cs', bs', rfl, hb2, ho2, hn2, hbs2⟩
              have ho3 := ho2
              obtain ⟨ka', kc', va', vc', q1, q2, rfl, -⟩ := ho3
              have hb2 : Below wr.heap.size wr w2 := HB1.out.trans (hb2.mono HB1.out.size)
              have hbs2 : ∀ b ∈ bs', wr.heap.size ≤ b ∧ b < w2.heap.size := fun b hb => ⟨Nat.le_trans HB1.out.size (hbs2 b hb).1, (hbs2 b hb).2⟩
              have HRO2 := Lib.hid (HRO.out.same ownIsEO hb2)
              have HB2 := Lib.hid hb2
              have HO2 := Lib.hid ho2
              have HN2 := Lib.hid (show _ ∧ _ from ⟨hn2, hbs2⟩)
              have hz2 : W0.heap.size ≤ w2.heap.size := Nat.le_trans hzr hb2.size
              clear hb2 ho2 hn2 hbs2 k0 k1 k2 k3 k4 k5 m0 m1 m2 m3 m4 m5
              generalize x.src = s2 at *
              generalize x.dst = d2 at *
              generalize x.ty = y2 at *
              go_wp2_with (at_builtin; refine wpList_append_lies _ rfl _ _ 23 rfl W0.heap.size 40 iE _ 6 88 Try.underlying23 siE szE s1E s2E rfl (by omega) (.slice a m c) m cl rfl (HRO2.out.own.alloc _) ⟨w2.heap.size, 0, none⟩ 1 1 [.int .i64 x.id, .int .i64 s2, .int .i64 d2, .string y2, .slice ka' x.keys.length kc', .slice va' x.vals.length vc'] rfl rfl (World.news_of_block (cs := #[.int .i64 x.id, .int .i64 s2, .int .i64 d2, .string y2, .slice ka' x.keys.length kc', .slice va' x.vals.length vc']) (t := 40) (fr := (0, 0)) (Block.new w2 [.int .i64 x.id, .int .i64 s2, .int .i64 d2, .string y2, .slice ka' x.keys.length kc', .slice va' x.vals.length vc'] 40)) (by simp [Value.oneCell']) (by omega) (by unfold maxLen; omega) (by omega) (by simp; omega) (w2.heap.size + 1) (by simp) ?_)
              intro g9 cap w3 hown hgrow hat hlt3
              have HROS := Lib.hid (HRO.out.step ownIsEO HB2.out hzr HO2.out HN2.out.1 HN2.out.2 hown hgrow rfl hat)
              have HB3 : Hid (Below W0.heap.size W0 w3) := Lib.hid (Below.grown ((HBR.out.trans (HB2.out.mono hzr)).alloc hz2 _) hgrow (by simp; omega) (fun k e => (HRO2.out.own.lt k e).1))
              clear hown hgrow hat hlt3
              go_wp2_with fail
              go_roundw
              case rel => exact ⟨j + 1, m + 1, _, _, _, _, rfl, by go_num, by omega, by omega, Lib.hid (by rw [filter_in HXJ.out HFX.out]; exact HROS.out), HB3⟩
              case measure => simp [intOf]; omega
            · have t1 : ¬ ty.toList = [] := fun e => hty (by rw [ba_list] at e; obtain ⟨⟨l⟩⟩ := ty; simp at e; subst e; rfl)
              have t2 : ty.toList.isEmpty = false := by cases h : ty.toList with | nil => exact absurd h t1 | cons x l => rfl
              have t3 : (ty.toList == []) = false := by simpa using t1
              by_cases hy : y1 = ty
              · subst hy
                have HFX : Hid (f x = true) := Lib.hid (by rw [HAT.out]; simp [*])
                go_wp2_with fail
                rw [HW1.out]
                refine HCO.out.mono ?_
                rintro e w2 ⟨cs', bs', rfl, hb2, ho2, hn2, hbs2⟩
                have ho3 := ho2
                obtain ⟨ka', kc', va', vc', q1, q2, rfl, -⟩ := ho3
                have hb2 : Below wr.heap.size wr w2 := HB1.out.trans (hb2.mono HB1.out.size)
                have hbs2 : ∀ b ∈ bs', wr.heap.size ≤ b ∧ b < w2.heap.size := fun b hb => ⟨Nat.le_trans HB1.out.size (hbs2 b hb).1, (hbs2 b hb).2⟩
                have HRO2 := Lib.hid (HRO.out.same ownIsEO hb2)
                have HB2 := Lib.hid hb2
                have HO2 := Lib.hid ho2
                have HN2 := Lib.hid (show _ ∧ _ from ⟨hn2, hbs2⟩)
                have hz2 : W0.heap.size ≤ w2.heap.size := Nat.le_trans hzr hb2.size
                clear hb2 ho2 hn2 hbs2 k0 k1 k2 k3 k4 k5 m0 m1 m2 m3 m4 m5
                generalize x.src = s2 at *
                generalize x.dst = d2 at *
                generalize x.ty = y2 at *
                go_wp2_with (at_builtin; refine wpList_append_lies _ rfl _ _ 23 rfl W0.heap.size 40 iE _ 6 88 Try.underlying23 siE szE s1E s2E rfl (by omega) (.slice a m c) m cl rfl (HRO2.out.own.alloc _) ⟨w2.heap.size, 0, none⟩ 1 1 [.int .i64 x.id, .int .i64 s2, .int .i64 d2, .string y2, .slice ka' x.keys.length kc', .slice va' x.vals.length vc'] rfl rfl (World.news_of_block (cs := #[.int .i64 x.id, .int .i64 s2, .int .i64 d2, .string y2, .slice ka' x.keys.length kc', .slice va' x.vals.length vc']) (t := 40) (fr := (0, 0)) (Block.new w2 [.int .i64 x.id, .int .i64 s2, .int .i64 d2, .string y2, .slice ka' x.keys.length kc', .slice va' x.vals.length vc'] 40)) (by simp [Value.oneCell']) (by omega) (by unfold maxLen; omega) (by omega) (by simp; omega) (w2.heap.size + 1) (by simp) ?_)
                intro g9 cap w3 hown hgrow hat hlt3
                have HROS := Lib.hid (HRO.out.step ownIsEO HB2.out hzr HO2.out HN2.out.1 HN2.out.2 hown hgrow rfl hat)
                have HB3 : Hid (Below W0.heap.size W0 w3) := Lib.hid (Below.grown ((HBR.out.trans (HB2.out.mono hzr)).alloc hz2 _) hgrow (by simp; omega) (fun k e => (HRO2.out.own.lt k e).1))
                clear hown hgrow hat hlt3
                go_wp2_with fail
                go_roundw
                case rel => exact ⟨j + 1, m + 1, _, _, _, _, rfl, by go_num, by omega, by omega, Lib.hid (by rw [filter_in HXJ.out HFX.out]; exact HROS.out), HB3⟩
                case measure => simp [intOf]; omega
              · have y1a : (y1.toList == ty.toList) = false := by rw [ba_beq]; simpa using hy
                have y1b : ¬ y1.toList = ty.toList := by simpa using y1a
                have y1c : (ty.toList == y1.toList) = false := by rw [ba_beq]; simpa using (fun e => hy (Eq.symm e))
                have y1d : ¬ ty.toList = y1.toList := by simpa using y1c
                have HFX : Hid (f x = false) := Lib.hid (by rw [HAT.out]; simp [*])
                have HRO3 := Lib.hid (HRO.out.same ownIsEO HB1.out)
                have HB3 : Hid (Below W0.heap.size W0 W1) := Lib.hid (HBR.out.trans (HB1.out.mono hzr))
                go_wp2_with fail
                (try rw [HW1.out])
                go_roundw
                case rel => exact ⟨j + 1, m, _, _, _, _, rfl, by go_num, by omega, by omega, Lib.hid (by rw [filter_out HXJ.out HFX.out]; exact HRO3.out), HB3⟩
                case measure => simp [intOf]; omega
          · skip
            have hd1 : (d1 == id) = false := by simpa using hd
            have hd2 : (d1 != id) = true := by simpa using hd
            have HFX : Hid (f x = false) := Lib.hid (by rw [HAT.out]; simp [*])
            have HRO3 := Lib.hid (HRO.out.same ownIsEO HB1.out)
            have HB3 : Hid (Below W0.heap.size W0 W1) := Lib.hid (HBR.out.trans (HB1.out.mono hzr))
            go_wp2_with fail
            (try rw [HW1.out])
            go_roundw
            case rel => exact ⟨j + 1, m, _, _, _, _, rfl, by go_num, by omega, by omega, Lib.hid (by rw [filter_out HXJ.out HFX.out]; exact HRO3.out), HB3⟩
            case measure => simp [intOf]; omega
      · by_cases h0 : dir = 0
        · subst h0
          by_cases hs : s1 = id
          · subst hs
            by_cases hty : ty = ⟨#[]⟩
            · subst hty
              have HFX : Hid (f x = true) := Lib.hid (by rw [HAT.out]; simp [*])
              go_wp2_with fail
              rw [HW1.out]
              refine HCO.out.mono ?_
              rintro e w2 ⟨cs', bs', rfl, hb2, ho2, hn2, hbs2⟩
              have ho3 := ho2
              obtain ⟨ka', kc', va', vc', q1, q2, rfl, -⟩ := ho3
              have hb2 : Below wr.heap.size wr w2 := HB1.out.trans (hb2.mono HB1.out.size)
              have hbs2 : ∀ b ∈ bs', wr.heap.size ≤ b ∧ b < w2.heap.size := fun b hb => ⟨Nat.le_trans HB1.out.size (hbs2 b hb).1, (hbs2 b hb).2⟩
              have HRO2 := Lib.hid (HRO.out.same ownIsEO hb2)
              have HB2 := Lib.hid hb2
              have HO2 := Lib.hid ho2
              have HN2 := Lib.hid (show _ ∧ _ from ⟨hn2, hbs2⟩)
              have hz2 : W0.heap.size ≤ w2.heap.size := Nat.le_trans hzr hb2.size
              clear hb2 ho2 hn2 hbs2 k0 k1 k2 k3 k4 k5 m0 m1 m2 m3 m4 m5
              generalize x.src = s2 at *
              generalize x.dst = d2 at *
              generalize x.ty = y2 at *
              go_wp2_with (at_builtin; refine wpList_append_lies _ rfl _ _ 23 rfl W0.heap.size 40 iE _ 6 88 Try.underlying23 siE szE s1E s2E rfl (by omega) (.slice a m c) m cl rfl (HRO2.out.own.alloc _) ⟨w2.heap.size, 0, none⟩ 1 1 [.int .i64 x.id, .int .i64 s2, .int .i64 d2, .string y2, .slice ka' x.keys.length kc', .slice va' x.vals.length vc'] rfl rfl (World.news_of_block (cs := #[.int .i64 x.id, .int .i64 s2, .int .i64 d2, .string y2, .slice ka' x.keys.length kc', .slice va' x.vals.length vc']) (t := 40) (fr := (0, 0)) (Block.new w2 [.int .i64 x.id, .int .i64 s2, .int .i64 d2, .string y2, .slice ka' x.keys.length kc', .slice va' x.vals.length vc'] 40)) (by simp [Value.oneCell']) (by omega) (by unfold maxLen; omega) (by omega) (by simp; omega) (w2.heap.size + 1) (by simp) ?_)
              intro g9 cap w3 hown hgrow hat hlt3
              have HROS := Lib.hid (HRO.out.step ownIsEO HB2.out hzr HO2.out HN2.out.1 HN2.out.2 hown hgrow rfl hat)
              have HB3 : Hid (Below W0.heap.size W0 w3) := Lib.hid (Below.grown ((HBR.out.trans (HB2.out.mono hzr)).alloc hz2 _) hgrow (by simp; omega) (fun k e => (HRO2.out.own.lt k e).1))
              clear hown hgrow hat hlt3
              go_wp2_with fail
              go_roundw
              case rel => exact ⟨j + 1, m + 1, _, _, _, _, rfl, by go_num, by omega, by omega, Lib.hid (by rw [filter_in HXJ.out HFX.out]; exact HROS.out), HB3⟩
              case measure => simp [intOf]; omega
            · have t1 : ¬ ty.toList = [] := fun e => hty (by rw [ba_list] at e; obtain ⟨⟨l⟩⟩ := ty; simp at e; subst e; rfl)
              have t2 : ty.toList.isEmpty = false := by cases h : ty.toList with | nil => exact absurd h t1 | cons x l => rfl
              have t3 : (ty.toList == []) = false := by simpa using t1
              by_cases hy : y1 = ty
              · subst hy
                have HFX : Hid (f x = true) := Lib.hid (by rw [HAT.out]; simp [*])
                go_wp2_with fail
                rw [HW1.out]
                refine HCO.out.mono ?_
                rintro e w2 ⟨cs', bs', rfl, hb2, ho2, hn2, hbs2⟩
                have ho3 := ho2
                obtain ⟨ka', kc', va', vc', q1, q2, rfl, -⟩ := ho3
                have hb2 : Below wr.heap.size wr w2 := HB1.out.trans (hb2.mono HB1.out.size)
                have hbs2 : ∀ b ∈ bs', wr.heap.size ≤ b ∧ b < w2.heap.size := fun b hb => ⟨Nat.le_trans HB1.out.size (hbs2 b hb).1, (hbs2 b hb).2⟩
                have HRO2 := Lib.hid (HRO.out.same ownIsEO hb2)
                have HB2 := Lib.hid hb2
                have HO2 := Lib.hid ho2
                have HN2 := Lib.hid (show _ ∧ _ from ⟨hn2, hbs2⟩)
                have hz2 : W0.heap.size ≤ w2.heap.size := Nat.le_trans hzr hb2.size
                clear hb2 ho2 hn2 hbs2 k0 k1 k2 k3 k4 k5 m0 m1 m2 m3 m4 m5
                generalize x.src = s2 at *
                generalize x.dst = d2 at *
                generalize x.ty = y2 at *
                go_wp2_with (at_builtin; refine wpList_append_lies _ rfl _ _ 23 rfl W0.heap.size 40 iE _ 6 88 Try.underlying23 siE szE s1E s2E rfl (by omega) (.slice a m c) m cl rfl (HRO2.out.own.alloc _) ⟨w2.heap.size, 0, none⟩ 1 1 [.int .i64 x.id, .int .i64 s2, .int .i64 d2, .string y2, .slice ka' x.keys.length kc', .slice va' x.vals.length vc'] rfl rfl (World.news_of_block (cs := #[.int .i64 x.id, .int .i64 s2, .int .i64 d2, .string y2, .slice ka' x.keys.length kc', .slice va' x.vals.length vc']) (t := 40) (fr := (0, 0)) (Block.new w2 [.int .i64 x.id, .int .i64 s2, .int .i64 d2, .string y2, .slice ka' x.keys.length kc', .slice va' x.vals.length vc'] 40)) (by simp [Value.oneCell']) (by omega) (by unfold maxLen; omega) (by omega) (by simp; omega) (w2.heap.size + 1) (by simp) ?_)
                intro g9 cap w3 hown hgrow hat hlt3
                have HROS := Lib.hid (HRO.out.step ownIsEO HB2.out hzr HO2.out HN2.out.1 HN2.out.2 hown hgrow rfl hat)
                have HB3 : Hid (Below W0.heap.size W0 w3) := Lib.hid (Below.grown ((HBR.out.trans (HB2.out.mono hzr)).alloc hz2 _) hgrow (by simp; omega) (fun k e => (HRO2.out.own.lt k e).1))
                clear hown hgrow hat hlt3
                go_wp2_with fail
                go_roundw
                case rel => exact ⟨j + 1, m + 1, _, _, _, _, rfl, by go_num, by omega, by omega, Lib.hid (by rw [filter_in HXJ.out HFX.out]; exact HROS.out), HB3⟩
                case measure => simp [intOf]; omega
              · have y1a : (y1.toList == ty.toList) = false := by rw [ba_beq]; simpa using hy
                have y1b : ¬ y1.toList = ty.toList := by simpa using y1a
                have y1c : (ty.toList == y1.toList) = false := by rw [ba_beq]; simpa using (fun e => hy (Eq.symm e))
                have y1d : ¬ ty.toList = y1.toList := by simpa using y1c
                have HFX : Hid (f x = false) := Lib.hid (by rw [HAT.out]; simp [*])
                have HRO3 := Lib.hid (HRO.out.same ownIsEO HB1.out)
                have HB3 : Hid (Below W0.heap.size W0 W1) := Lib.hid (HBR.out.trans (HB1.out.mono hzr))
                go_wp2_with fail
                (try rw [HW1.out])
                go_roundw
                case rel => exact ⟨j + 1, m, _, _, _, _, rfl, by go_num, by omega, by omega, Lib.hid (by rw [filter_out HXJ.out HFX.out]; exact HRO3.out), HB3⟩
                case measure => simp [intOf]; omega
          · skip
            have hs1 : (s1 == id) = false := by simpa using hs
            have hs2 : (s1 != id) = true := by simpa using hs
            by_cases hd : d1 = id
            · subst hd
              have HFX : Hid (f x = false) := Lib.hid (by rw [HAT.out]; simp [*])
              have HRO3 := Lib.hid (HRO.out.same ownIsEO HB1.out)
              have HB3 : Hid (Below W0.heap.size W0 W1) := Lib.hid (HBR.out.trans (HB1.out.mono hzr))
              go_wp2_with fail
              (try rw [HW1.out])
              go_roundw
              case rel => exact ⟨j + 1, m, _, _, _, _, rfl, by go_num, by omega, by omega, Lib.hid (by rw [filter_out HXJ.out HFX.out]; exact HRO3.out), HB3⟩
              case measure => simp [intOf]; omega
            · skip
              have hd1 : (d1 == id) = false := by simpa using hd
              have hd2 : (d1 != id) = true := by simpa using hd
              have HFX : Hid (f x = false) := Lib.hid (by rw [HAT.out]; simp [*])
              have HRO3 := Lib.hid (HRO.out.same ownIsEO HB1.out)
              have HB3 : Hid (Below W0.heap.size W0 W1) := Lib.hid (HBR.out.trans (HB1.out.mono hzr))
              go_wp2_with fail
              (try rw [HW1.out])
              go_roundw
              case rel => exact ⟨j + 1, m, _, _, _, _, rfl, by go_num, by omega, by omega, Lib.hid (by rw [filter_out HXJ.out HFX.out]; exact HRO3.out), HB3⟩
              case measure => simp [intOf]; omega
        · skip
          have h11 : (dir == 1) = false := by simpa using h1
          have h12 : (dir != 1) = true := by simpa using h1
          have h01 : (dir == 0) = false := by simpa using h0
          have h02 : (dir != 0) = true := by simpa using h0
          by_cases hs : s1 = id
          · subst hs
            by_cases hty : ty = ⟨#[]⟩
            · subst hty
              have HFX : Hid (f x = true) := Lib.hid (by rw [HAT.out]; simp [*])
              go_wp2_with fail
              rw [HW1.out]
              refine HCO.out.mono ?_
              rintro e w2 ⟨cs', bs', rfl, hb2, ho2, hn2, hbs2⟩
              have ho3 := ho2
              obtain ⟨ka', kc', va', vc', q1, q2, rfl, -⟩ := ho3
              have hb2 : Below wr.heap.size wr w2 := HB1.out.trans (hb2.mono HB1.out.size)
              have hbs2 : ∀ b ∈ bs', wr.heap.size ≤ b ∧ b < w2.heap.size := fun b hb => ⟨Nat.le_trans HB1.out.size (hbs2 b hb).1, (hbs2 b hb).2⟩
              have HRO2 := Lib.hid (HRO.out.same ownIsEO hb2)
              have HB2 := Lib.hid hb2
              have HO2 := Lib.hid ho2
              have HN2 := Lib.hid (show _ ∧ _ from ⟨hn2, hbs2⟩)
              have hz2 : W0.heap.size ≤ w2.heap.size := Nat.le_trans hzr hb2.size
              clear hb2 ho2 hn2 hbs2 k0 k1 k2 k3 k4 k5 m0 m1 m2 m3 m4 m5
              generalize x.src = s2 at *
              generalize x.dst = d2 at *
              generalize x.ty = y2 at *
              go_wp2_with (at_builtin; refine wpList_append_lies _ rfl _ _ 23 rfl W0.heap.size 40 iE _ 6 88 Try.underlying23 siE szE s1E s2E rfl (by omega) (.slice a m c) m cl rfl (HRO2.out.own.alloc _) ⟨w2.heap.size, 0, none⟩ 1 1 [.int .i64 x.id, .int .i64 s2, .int .i64 d2, .string y2, .slice ka' x.keys.length kc', .slice va' x.vals.length vc'] rfl rfl (World.news_of_block (cs := #[.int .i64 x.id, .int .i64 s2, .int .i64 d2, .string y2, .slice ka' x.keys.length kc', .slice va' x.vals.length vc']) (t := 40) (fr := (0, 0)) (Block.new w2 [.int .i64 x.id, .int .i64 s2, .int .i64 d2, .string y2, .slice ka' x.keys.length kc', .slice va' x.vals.length vc'] 40)) (by simp [Value.oneCell']) (by omega) (by unfold maxLen; omega) (by omega) (by simp; omega) (w2.heap.size + 1) (by simp) ?_)
              intro g9 cap w3 hown hgrow hat hlt3
              have HROS := Lib.hid (HRO.out.step ownIsEO HB2.out hzr HO2.out HN2.out.1 HN2.out.2 hown hgrow rfl hat)
              have HB3 : Hid (Below W0.heap.size W0 w3) := Lib.hid (Below.grown ((HBR.out.trans (HB2.out.mono hzr)).alloc hz2 _) hgrow (by simp; omega) (fun k e => (HRO2.out.own.lt k e).1))
              clear hown hgrow hat hlt3
              go_wp2_with fail
              go_roundw
              case rel => exact ⟨j + 1, m + 1, _, _, _, _, rfl, by go_num, by omega, by omega, Lib.hid (by rw [filter_in HXJ.out HFX.out]; exact HROS.out), HB3⟩
              case measure => simp [intOf]; omega
            · have t1 : ¬ ty.toList = [] := fun e => hty (by rw [ba_list] at e; obtain ⟨⟨l⟩⟩ := ty; simp at e; subst e; rfl)
              have t2 : ty.toList.isEmpty = false := by cases h : ty.toList with | nil => exact absurd h t1 | cons x l => rfl
              have t3 : (ty.toList == []) = false := by simpa using t1
              by_cases hy : y1 = ty
              · subst hy
                have HFX : Hid (f x = true) := Lib.hid (by rw [HAT.out]; simp [*])
                go_wp2_with fail
                rw [HW1.out]
                refine HCO.out.mono ?_
                rintro e w2 ⟨cs', bs', rfl, hb2, ho2, hn2, hbs2⟩
                have ho3 := ho2
                obtain ⟨ka', kc', va', vc', q1, q2, rfl, -⟩ := ho3
                have hb2 : Below wr.heap.size wr w2 := HB1.out.trans (hb2.mono HB1.out.size)
                have hbs2 : ∀ b ∈ bs', wr.heap.size ≤ b ∧ b < w2.heap.size := fun b hb => ⟨Nat.le_trans HB1.out.size (hbs2 b hb).1, (hbs2 b hb).2⟩
                have HRO2 := Lib.hid (HRO.out.same ownIsEO hb2)
                have HB2 := Lib.hid hb2
                have HO2 := Lib.hid ho2
                have HN2 := Lib.hid (show _ ∧ _ from ⟨hn2, hbs2⟩)
                have hz2 : W0.heap.size ≤ w2.heap.size := Nat.le_trans hzr hb2.size
                clear hb2 ho2 hn2 hbs2 k0 k1 k2 k3 k4 k5 m0 m1 m2 m3 m4 m5
                generalize x.src = s2 at *
                generalize x.dst = d2 at *
                generalize x.ty = y2 at *
                go_wp2_with (at_builtin; refine wpList_append_lies _ rfl _ _ 23 rfl W0.heap.size 40 iE _ 6 88 Try.underlying23 siE szE s1E s2E rfl (by omega) (.slice a m c) m cl rfl (HRO2.out.own.alloc _) ⟨w2.heap.size, 0, none⟩ 1 1 [.int .i64 x.id, .int .i64 s2, .int .i64 d2, .string y2, .slice ka' x.keys.length kc', .slice va' x.vals.length vc'] rfl rfl (World.news_of_block (cs := #[.int .i64 x.id, .int .i64 s2, .int .i64 d2, .string y2, .slice ka' x.keys.length kc', .slice va' x.vals.length vc']) (t := 40) (fr := (0, 0)) (Block.new w2 [.int .i64 x.id, .int .i64 s2, .int .i64 d2, .string y2, .slice ka' x.keys.length kc', .slice va' x.vals.length vc'] 40)) (by simp [Value.oneCell']) (by omega) (by unfold maxLen; omega) (by omega) (by simp; omega) (w2.heap.size + 1) (by simp) ?_)
                intro g9 cap w3 hown hgrow hat hlt3
                have HROS := Lib.hid (HRO.out.step ownIsEO HB2.out hzr HO2.out HN2.out.1 HN2.out.2 hown hgrow rfl hat)
                have HB3 : Hid (Below W0.heap.size W0 w3) := Lib.hid (Below.grown ((HBR.out.trans (HB2.out.mono hzr)).alloc hz2 _) hgrow (by simp; omega) (fun k e => (HRO2.out.own.lt k e).1))
                clear hown hgrow hat hlt3
                go_wp2_with fail
                go_roundw
                case rel => exact ⟨j + 1, m + 1, _, _, _, _, rfl, by go_num, by omega, by omega, Lib.hid (by rw [filter_in HXJ.out HFX.out]; exact HROS.out), HB3⟩
                case measure => simp [intOf]; omega
              · have y1a : (y1.toList == ty.toList) = false := by rw [ba_beq]; simpa using hy
                have y1b : ¬ y1.toList = ty.toList := by simpa using y1a
                have y1c : (ty.toList == y1.toList) = false := by rw [ba_beq]; simpa using (fun e => hy (Eq.symm e))
                have y1d : ¬ ty.toList = y1.toList := by simpa using y1c
                have HFX : Hid (f x = false) := Lib.hid (by rw [HAT.out]; simp [*])
                have HRO3 := Lib.hid (HRO.out.same ownIsEO HB1.out)
                have HB3 : Hid (Below W0.heap.size W0 W1) := Lib.hid (HBR.out.trans (HB1.out.mono hzr))
                go_wp2_with fail
                (try rw [HW1.out])
                go_roundw
                case rel => exact ⟨j + 1, m, _, _, _, _, rfl, by go_num, by omega, by omega, Lib.hid (by rw [filter_out HXJ.out HFX.out]; exact HRO3.out), HB3⟩
                case measure => simp [intOf]; omega
          · skip
            have hs1 : (s1 == id) = false := by simpa using hs
            have hs2 : (s1 != id) = true := by simpa using hs
            by_cases hd : d1 = id
            · subst hd
              by_cases hty : ty = ⟨#[]⟩
              · subst hty
                have HFX : Hid (f x = true) := Lib.hid (by rw [HAT.out]; simp [*])
                go_wp2_with fail
                rw [HW1.out]
                refine HCO.out.mono ?_
                rintro e w2 ⟨cs', bs', rfl, hb2, ho2, hn2, hbs2⟩
                have ho3 := ho2
                obtain ⟨ka', kc', va', vc', q1, q2, rfl, -⟩ := ho3
                have hb2 : Below wr.heap.size wr w2 := HB1.out.trans (hb2.mono HB1.out.size)
                have hbs2 : ∀ b ∈ bs', wr.heap.size ≤ b ∧ b < w2.heap.size := fun b hb => ⟨Nat.le_trans HB1.out.size (hbs2 b hb).1, (hbs2 b hb).2⟩
                have HRO2 := Lib.hid (HRO.out.same ownIsEO hb2)
                have HB2 := Lib.hid hb2
                have HO2 := Lib.hid ho2
                have HN2 := Lib.hid (show _ ∧ _ from ⟨hn2, hbs2⟩)
                have hz2 : W0.heap.size ≤ w2.heap.size := Nat.le_trans hzr hb2.size
                clear hb2 ho2 hn2 hbs2 k0 k1 k2 k3 k4 k5 m0 m1 m2 m3 m4 m5
                generalize x.src = s2 at *
                generalize x.dst = d2 at *
                generalize x.ty = y2 at *
                go_wp2_with (at_builtin; refine wpList_append_lies _ rfl _ _ 23 rfl W0.heap.size 40 iE _ 6 88 Try.underlying23 siE szE s1E s2E rfl (by omega) (.slice a m c) m cl rfl (HRO2.out.own.alloc _) ⟨w2.heap.size, 0, none⟩ 1 1 [.int .i64 x.id, .int .i64 s2, .int .i64 d2, .string y2, .slice ka' x.keys.length kc', .slice va' x.vals.length vc'] rfl rfl (World.news_of_block (cs := #[.int .i64 x.id, .int .i64 s2, .int .i64 d2, .string y2, .slice ka' x.keys.length kc', .slice va' x.vals.length vc']) (t := 40) (fr := (0, 0)) (Block.new w2 [.int .i64 x.id, .int .i64 s2, .int .i64 d2, .string y2, .slice ka' x.keys.length kc', .slice va' x.vals.length vc'] 40)) (by simp [Value.oneCell']) (by omega) (by unfold maxLen; omega) (by omega) (by simp; omega) (w2.heap.size + 1) (by simp) ?_)
                intro g9 cap w3 hown hgrow hat hlt3
                have HROS := Lib.hid (HRO.out.step ownIsEO HB2.out hzr HO2.out HN2.out.1 HN2.out.2 hown hgrow rfl hat)
                have HB3 : Hid (Below W0.heap.size W0 w3) := Lib.hid (Below.grown ((HBR.out.trans (HB2.out.mono hzr)).alloc hz2 _) hgrow (by simp; omega) (fun k e => (HRO2.out.own.lt k e).1))
                clear hown hgrow hat hlt3
                go_wp2_with fail
                go_roundw
                case rel => exact ⟨j + 1, m + 1, _, _, _, _, rfl, by go_num, by omega, by omega, Lib.hid (by rw [filter_in HXJ.out HFX.out]; exact HROS.out), HB3⟩
                case measure => simp [intOf]; omega
              · have t1 : ¬ ty.toList = [] := fun e => hty (by rw [ba_list] at e; obtain ⟨⟨l⟩⟩ := ty; simp at e; subst e; rfl)
                have t2 : ty.toList.isEmpty = false := by cases h : ty.toList with | nil => exact absurd h t1 | cons x l => rfl
                have t3 : (ty.toList == []) = false := by simpa using t1
                by_cases hy : y1 = ty
                · subst hy
                  have HFX : Hid (f x = true) := Lib.hid (by rw [HAT.out]; simp [*])
                  go_wp2_with fail
                  rw [HW1.out]
                  refine HCO.out.mono ?_
                  rintro e w2 ⟨cs', bs', rfl, hb2, ho2, hn2, hbs2⟩
                  have ho3 := ho2
                  obtain ⟨ka', kc', va', vc', q1, q2, rfl, -⟩ := ho3
                  have hb2 : Below wr.heap.size wr w2 := HB1.out.trans (hb2.mono HB1.out.size)
                  have hbs2 : ∀ b ∈ bs', wr.heap.size ≤ b ∧ b < w2.heap.size := fun b hb => ⟨Nat.le_trans HB1.out.size (hbs2 b hb).1, (hbs2 b hb).2⟩
                  have HRO2 := Lib.hid (HRO.out.same ownIsEO hb2)
                  have HB2 := Lib.hid hb2
                  have HO2 := Lib.hid ho2
                  have HN2 := Lib.hid (show _ ∧ _ from ⟨hn2, hbs2⟩)
                  have hz2 : W0.heap.size ≤ w2.heap.size := Nat.le_trans hzr hb2.size
                  clear hb2 ho2 hn2 hbs2 k0 k1 k2 k3 k4 k5 m0 m1 m2 m3 m4 m5
                  generalize x.src = s2 at *
                  generalize x.dst = d2 at *
                  generalize x.ty = y2 at *
                  go_wp2_with (at_builtin; refine wpList_append_lies _ rfl _ _ 23 rfl W0.heap.size 40 iE _ 6 88 Try.underlying23 siE szE s1E s2E rfl (by omega) (.slice a m c) m cl rfl (HRO2.out.own.alloc _) ⟨w2.heap.size, 0, none⟩ 1 1 [.int .i64 x.id, .int .i64 s2, .int .i64 d2, .string y2, .slice ka' x.keys.length kc', .slice va' x.vals.length vc'] rfl rfl (World.news_of_block (cs := #[.int .i64 x.id, .int .i64 s2, .int .i64 d2, .string y2, .slice ka' x.keys.length kc', .slice va' x.vals.length vc']) (t := 40) (fr := (0, 0)) (Block.new w2 [.int .i64 x.id, .int .i64 s2, .int .i64 d2, .string y2, .slice ka' x.keys.length kc', .slice va' x.vals.length vc'] 40)) (by simp [Value.oneCell']) (by omega) (by unfold maxLen; omega) (by omega) (by simp; omega) (w2.heap.size + 1) (by simp) ?_)
                  intro g9 cap w3 hown hgrow hat hlt3
                  have HROS := Lib.hid (HRO.out.step ownIsEO HB2.out hzr HO2.out HN2.out.1 HN2.out.2 hown hgrow rfl hat)
                  have HB3 : Hid (Below W0.heap.size W0 w3) := Lib.hid (Below.grown ((HBR.out.trans (HB2.out.mono hzr)).alloc hz2 _) hgrow (by simp; omega) (fun k e => (HRO2.out.own.lt k e).1))
                  clear hown hgrow hat hlt3
                  go_wp2_with fail
                  go_roundw
                  case rel => exact ⟨j + 1, m + 1, _, _, _, _, rfl, by go_num, by omega, by omega, Lib.hid (by rw [filter_in HXJ.out HFX.out]; exact HROS.out), HB3⟩
                  case measure => simp [intOf]; omega
                · have y1a : (y1.toList == ty.toList) = false := by rw [ba_beq]; simpa using hy
                  have y1b : ¬ y1.toList = ty.toList := by simpa using y1a
                  have y1c : (ty.toList == y1.toList) = false := by rw [ba_beq]; simpa using (fun e => hy (Eq.symm e))
                  have y1d : ¬ ty.toList = y1.toList := by simpa using y1c
                  have HFX : Hid (f x = false) := Lib.hid (by rw [HAT.out]; simp [*])
                  have HRO3 := Lib.hid (HRO.out.same ownIsEO HB1.out)
                  have HB3 : Hid (Below W0.heap.size W0 W1) := Lib.hid (HBR.out.trans (HB1.out.mono hzr))
                  go_wp2_with fail
                  (try rw [HW1.out])
                  go_roundw
                  case rel => exact ⟨j + 1, m, _, _, _, _, rfl, by go_num, by omega, by omega, Lib.hid (by rw [filter_out HXJ.out HFX.out]; exact HRO3.out), HB3⟩
                  case measure => simp [intOf]; omega
            · skip
              have hd1 : (d1 == id) = false := by simpa using hd
              have hd2 : (d1 != id) = true := by simpa using hd
              have HFX : Hid (f x = false) := Lib.hid (by rw [HAT.out]; simp [*])
              have HRO3 := Lib.hid (HRO.out.same ownIsEO HB1.out)
              have HB3 : Hid (Below W0.heap.size W0 W1) := Lib.hid (HBR.out.trans (HB1.out.mono hzr))
              go_wp2_with fail
              (try rw [HW1.out])
              go_roundw
              case rel => exact ⟨j + 1, m, _, _, _, _, rfl, by go_num, by omega, by omega, Lib.hid (by rw [filter_out HXJ.out HFX.out]; exact HRO3.out), HB3⟩
              case measure => simp [intOf]; omega
    · have hlt' : ¬ (j : Int) < g.edges.length := by omega
      have HRN : Hid (RowG IsEO 40 6 W0.heap.size wr (.slice a m c) m cl (g.edges.filter f) bs) := Lib.hid (by have := HRO.out; rwa [List.take_of_length_le (by omega)] at this)
      obtain ⟨la9, lc9, b29, hv9, hc9, hp9, hn9, hr9⟩ := HRN.out.part ownIsEO
      injection hv9 with e1 e2 e3
      subst e1 e3
      have hml := HRN.out.len
      have HFIN : Hid (Q (.returned (.slice a m c)) wr) := Lib.hid (by
        rw [← HQ.out]
        subst hml
        exact ⟨a, c, b29, rfl, HBW.out.trans (HBR.out.mono (by have := HZ0.out; omega)), hc9, hp9, hn9, fun q hq => ⟨by have := (hr9 q hq).1; have := HZ0.out; omega, (hr9 q hq).2⟩⟩)
      clear hc9 hp9 hn9 hr9 hml
      go_wp2_with fail
      exact HFIN.out
end Go.Proofs.Ytoakloicjlfaaaa

/- Layer 14: the program's Drop and Cut. Conditions: the graph's numbers rise, the graph is small. -/
namespace Go.Proofs.Ytoakloicjlfaaaa
open Go.RowKit
set_option linter.unusedSimpArgs false
set_option linter.unusedVariables false
set_option maxRecDepth 100000

/-- A slice without elements is appended: nothing is done. -/
theorem step_append_zero {P : Program} {ops : Array Oper} {o : Oper} {a : Act} {w : World} {K : Act → World → Prop} {Q : Exit → Act → World → Prop} {E : Prop} (hg : o.guard = none) (s x : Operand) (t : TypeId) (hop : o.op = Op.call { callee := Callee.builtin Builtin.append, args := #[s, x], argTypes := #[t, t] })
    (e : TypeId) (i : TypeInfo) (h1 : P.underlying t = some (.slice e)) (h2 : P.info? e = some i) (ao bo : Option Addr) (n cap c : Nat) (hs : a.eval s = .slice ao n cap) (hx : a.eval x = .slice bo 0 c) (hle : n ≤ cap)
    (hK : K (a.put o.dst (.slice ao n cap)) w) : if Region.wanted o (yielded ops a.tmps) = true then Oper.wp P o a w K Q else E := by
  have hw : Region.wanted o (yielded ops a.tmps) = true := by simp [Region.wanted, hg]
  rw [if_pos hw]
  have hsrc : Src P i.size t (.slice bo 0 c) 0 [] w := by
    cases bo with
    | none => exact Src.ofNil w h1 c
    | some b => exact Src.ofSlice w h1 b 0 c [] (by simp) (by simp) (by simp)
  have hrun := run_append_nothing (P := P) w t t o.type e i h1 h2 ao n cap hle (.slice bo 0 c) hsrc
  unfold Oper.wp
  simp [execOp, hop, resolve, invoke, builtin, hs, hx, hrun, Result.andThen]
  exact hK

set_option maxHeartbeats 16000000 in
theorem drop_any (g : Gt) (id : Int) (cs : List Value) (B : Nat) (w : World) (hg : IsG B w cs g) (hB : B ≤ w.heap.size) (hr : RiseI (idsN g)) (hsm : SmG g) :
    Calls Try.prog 18 #[.agg cs.toArray, .int .i64 id] w (ResP (dropG g id) w) := by
  have hg0 := hg
  obtain ⟨na, nc, ea, ec, rfl, hnz, hez, hN, hE⟩ := hg
  show Calls Try.prog 18 #[.agg #[.slice na g.nodes.length nc, .slice ea g.edges.length ec], .int .i64 id] w _
  have hsm0 := hsm
  obtain ⟨⟨hnl, hel⟩, hs1, hs2⟩ := hsm
  obtain ⟨iS, siS, szS, s1S, s2S⟩ := info_parts Try.infoNode
  obtain ⟨W0, hW0⟩ : ∃ W0, (w.alloc (.cells #[.slice na g.nodes.length nc, .slice ea g.edges.length ec] 25)).alloc (.cells #[.slice none 0 0, .slice none 0 0] 25) = W0 := ⟨_, rfl⟩
  have HBX : Hid (Bx w [([.slice na g.nodes.length nc, .slice ea g.edges.length ec], 25), ([.slice none 0 0, .slice none 0 0], 25)] W0) := Lib.hid (by rw [← hW0]; exact ((((Bx.nil w).alloc rfl [.slice na g.nodes.length nc, .slice ea g.edges.length ec] 25)).alloc (by simp) [.slice none 0 0, .slice none 0 0] 25))
  have HW0 := Lib.hid hW0
  have HFI := Lib.hid (fun (w' : World) (hb : Below w.heap.size w w') => findNode_any g.nodes id na nc B w' (hN.below hb hB (fun _ _ h => h.below hb hB)) (Nat.le_trans hB hb.size) (by omega) hr)
  have HAR := Lib.hid (fun (w' : World) (hb : Below w.heap.size w w') => around_any g id 2 ⟨#[]⟩ _ B w' (hg0.below hb hB) (Nat.le_trans hB hb.size) hsm0)
  have HNZ := Lib.hid hnz
  have HEZ := Lib.hid hez
  have HNS := Lib.hid hN
  have HES := Lib.hid hE
  have HSM2 : Hid (∀ p, SmG ⟨g.nodes.take p ++ g.nodes.drop (p + 1), g.edges⟩) := Lib.hid (fun p => ⟨by constructor <;> simp <;> omega, fun j y hy => by rcases List.mem_append.1 (List.mem_of_getElem? hy) with h | h; exact (List.getElem?_of_mem (List.mem_of_mem_take h)).elim fun i hi => hs1 i y hi; exact (List.getElem?_of_mem (List.mem_of_mem_drop h)).elim fun i hi => hs1 i y hi, hs2⟩)
  have HPT := Lib.hid (fun h => posI_lt (l := idsN g) (id := id) h)
  have hil : (idsN g).length = g.nodes.length := by unfold idsN; simp
  rw [hil] at HPT
  have i0_0 : W0.cell? ⟨w.heap.size, 0, none⟩ = some (.slice na g.nodes.length nc) := HBX.out.cell 0 0 rfl rfl
  have i0_1 : W0.cell? ⟨w.heap.size, 1, none⟩ = some (.slice ea g.edges.length ec) := HBX.out.cell 0 1 rfl rfl
  have i1_0 : W0.cell? ⟨w.heap.size + 1, 0, none⟩ = some (.slice none 0 0) := HBX.out.cell 1 0 rfl rfl
  have i1_1 : W0.cell? ⟨w.heap.size + 1, 1, none⟩ = some (.slice none 0 0) := HBX.out.cell 1 1 rfl rfl
  rw [← hW0] at i0_0 i0_1 i1_0 i1_1
  clear hW0 hg0 hN hE hnz hez hr hs1 hs2 hil hsm0
  go_enter Try.func18, Try.ntmps18
  go_wp2_with fail
  rw [HW0.out]
  refine (HFI.out _ HBX.out.bel).mono ?_
  rintro e w1 ⟨rfl, hb1⟩
  have HBX1 := Lib.hid (HBX.out.below hb1)
  clear i0_0 i0_1 i1_0 i1_1 hb1
  obtain ⟨p, hp⟩ : ∃ p, posI (idsN g) id = p := ⟨_, rfl⟩
  obtain ⟨is, his⟩ : ∃ is, hasI (idsN g) id = is := ⟨_, rfl⟩
  have HPI := Lib.hid hp
  have HII := Lib.hid his
  rw [hp] at HPT
  rw [his] at HPT
  change posI (g.nodes.map (·.id)) id = p at hp
  change hasI (g.nodes.map (·.id)) id = is at his
  rw [hp, his]
  clear hp his
  cases is with
  | false =>
    have HP : Hid (dropG g id = (23, noG)) := Lib.hid (by unfold dropG; rw [if_pos HII.out])
    have f1_0 : w1.cell? ⟨w.heap.size + 1, 0, none⟩ = some (.slice none 0 0) := HBX1.out.cell 1 0 rfl rfl
    have f1_1 : w1.cell? ⟨w.heap.size + 1, 1, none⟩ = some (.slice none 0 0) := HBX1.out.cell 1 1 rfl rfl
    have z1_0 : w1.frozen? ⟨w.heap.size + 1, 0, none⟩ = false := HBX1.out.free 1 0 rfl
    have z1_1 : w1.frozen? ⟨w.heap.size + 1, 1, none⟩ = false := HBX1.out.free 1 1 rfl
    obtain ⟨q0, q1⟩ := two_cells (HBX1.out.blk 1 _ _ rfl) (.slice none 0 0) (.slice none 0 0)
    go_wp2_with fail
    refine bodyPost_ret (by simp [results, Try.results18, go_sem, q0, q1]; rfl) rfl ?_
    rw [HP.out]
    exact ResP.err _ ((HBX1.out.put 1 0 rfl (.slice none 0 0)).put 1 1 rfl (.slice none 0 0)).bel
  | true =>
    have hplt := HPT.out rfl
    obtain ⟨L9, hL9⟩ : ∃ L9, g.nodes.take p ++ g.nodes.drop (p + 1) = L9 := ⟨_, rfl⟩
    have HSM3 := HSM2.out p
    rw [hL9] at HSM3
    clear HSM2
    have HSM2 := Lib.hid HSM3
    clear HSM3
    have HL9 := Lib.hid hL9
    clear hL9
    have hplt' : (p : Int) < g.nodes.length := by omega
    have hp0 : (0 : Int) ≤ p := by omega
    have f0_0 : w1.cell? ⟨w.heap.size, 0, none⟩ = some (.slice na g.nodes.length nc) := HBX1.out.cell 0 0 rfl rfl
    have f0_1 : w1.cell? ⟨w.heap.size, 1, none⟩ = some (.slice ea g.edges.length ec) := HBX1.out.cell 0 1 rfl rfl
    go_wp2_with fail
    refine (HAR.out _ HBX1.out.bel).mono ?_
    rintro e w2 ⟨a2, c2, bs2, rfl, hb2, -, -, -, -⟩
    have HBX2 := Lib.hid (HBX1.out.below hb2)
    clear f0_0 f0_1 hb2
    by_cases hem : (aroundG g id 2 ⟨#[]⟩).isEmpty = false
    · have HP : Hid (dropG g id = (5, noG)) := Lib.hid (by unfold dropG; rw [if_neg (by rw [HII.out]; simp), if_pos hem])
      have hl9 : 0 < (aroundG g id 2 ⟨#[]⟩).length := by cases h : aroundG g id 2 ⟨#[]⟩ with | nil => rw [h] at hem; cases hem | cons a l => simp
      have hl9' : (0 : Int) < (aroundG g id 2 ⟨#[]⟩).length := by omega
      generalize (aroundG g id 2 ⟨#[]⟩).length = q9 at *
      clear hem
      have f1_0 : w2.cell? ⟨w.heap.size + 1, 0, none⟩ = some (.slice none 0 0) := HBX2.out.cell 1 0 rfl rfl
      have f1_1 : w2.cell? ⟨w.heap.size + 1, 1, none⟩ = some (.slice none 0 0) := HBX2.out.cell 1 1 rfl rfl
      have z1_0 : w2.frozen? ⟨w.heap.size + 1, 0, none⟩ = false := HBX2.out.free 1 0 rfl
      have z1_1 : w2.frozen? ⟨w.heap.size + 1, 1, none⟩ = false := HBX2.out.free 1 1 rfl
      obtain ⟨q0, q1⟩ := two_cells (HBX2.out.blk 1 _ _ rfl) (.slice none 0 0) (.slice none 0 0)
      go_wp2_with fail
      refine bodyPost_ret (by simp [results, Try.results18, go_sem, q0, q1]; rfl) rfl ?_
      rw [HP.out]
      exact ResP.err _ ((HBX2.out.put 1 0 rfl (.slice none 0 0)).put 1 1 rfl (.slice none 0 0)).bel
    · skip
      have HEM := Lib.hid hem
      have hl9 : (aroundG g id 2 ⟨#[]⟩).length = 0 := by cases h : aroundG g id 2 ⟨#[]⟩ with | nil => rfl | cons a l => rw [h] at hem; exact absurd rfl hem
      rw [hl9]
      clear hem hl9
      have HP : Hid (dropG g id = (0, ⟨L9, g.edges⟩)) := Lib.hid (by unfold dropG; rw [if_neg (by rw [HII.out]; simp), if_neg HEM.out, HPI.out, HL9.out])
      obtain ⟨cl, hF, hC⟩ := (HNS.out.below HBX2.out.bel hB (fun _ _ h => h.below HBX2.out.bel hB)).flat IsN.one (by decide)
      have hBw : B ≤ w.heap.size := hB
      obtain ⟨b, off, ena, hbB, hcells⟩ : ∃ b off, na = some ⟨b, off, none⟩ ∧ b < B ∧ ∀ i v, cl[i]? = some v → w2.cell? ⟨b, off + i, none⟩ = some v := by
        rcases hC with h | ⟨b, off, h1, h2, h3⟩
        · have h9 := hF.len; rw [h] at h9; simp at h9; omega
        · exact ⟨b, off, h1, h2, h3⟩
      have HFL := Lib.hid hF
      have HCE := Lib.hid hcells
      have hCl := hF.len
      have HCl := Lib.hid hCl
      have hsc : g.nodes.length ≤ nc := HNZ.out.1.1
      have hsm : nc ≤ 9223372036854775807 := HNZ.out.1.2
      have HSZ := Lib.hid (show _ ∧ _ from ⟨hsc, hsm⟩)
      subst ena
      have g1 : (p : Int) ≤ nc := by omega
      have g2 : ¬ (nc < p) := by omega
      have g2' : p ≤ nc := by omega
      have g3 : IntKind.i64.wrap ((p : Int) + 1) = (p : Int) + 1 := IntWalk.i64_in _ (by omega)
      have g4 : (p : Int) + 1 ≤ g.nodes.length := by omega
      have g5 : ¬ (g.nodes.length < p + 1) := by omega
      have g6 : (0 : Int) ≤ (p : Int) + 1 := by omega
      clear hF hC hcells hCl
      skip
      by_cases hm : p + 1 = g.nodes.length
      · have HM9 := Lib.hid hm
        have f0_0 : w2.cell? ⟨w.heap.size, 0, none⟩ = some (.slice (some ⟨b, off, none⟩) g.nodes.length nc) := HBX2.out.cell 0 0 rfl rfl
        have f0_1 : w2.cell? ⟨w.heap.size, 1, none⟩ = some (.slice ea g.edges.length ec) := HBX2.out.cell 0 1 rfl rfl
        have g7 : g.nodes.length - (p + 1) = 0 := by omega
        clear hm
        go_wp2_with fail
        clear f0_0 f0_1
        refine wp_region_noPanic ?_
        refine wp_region_J (S := fun u : World => u.cell? ⟨w.heap.size, 0, none⟩ = some (.slice (some ⟨b, off, none⟩) g.nodes.length nc)) (fun j => j == 12) (by kernel_rfl) ?_
        obtain ⟨w0, hw0⟩ : ∃ u, w2.drew = u := ⟨_, rfl⟩
        have HBD : Hid (Bx w [([.slice (some ⟨b, off, none⟩) g.nodes.length nc, .slice ea g.edges.length ec], 25), ([.slice none 0 0, .slice none 0 0], 25)] w0) := Lib.hid (by rw [← hw0]; exact ⟨HBX2.out.bel.drew, HBX2.out.len, fun i c t h => (HBX2.out.blk i c t h).drew⟩)
        have HCD : Hid (∀ q : Addr, w0.cell? q = w2.cell? q) := Lib.hid (fun q => by rw [← hw0]; rfl)
        have HDB : Hid (Below w.heap.size w2 w0) := Lib.hid (by rw [← hw0]; exact (Below.refl _ _).drew)
        have HDS : Hid (w0.heap.size = w2.heap.size) := Lib.hid (by rw [← hw0]; rfl)
        rw [hw0]
        have hHeld : (fun u : World => u.cell? ⟨w.heap.size, 0, none⟩ = some (.slice (some ⟨b, off, none⟩) g.nodes.length nc)) w0 := HBD.out.cell 0 0 rfl rfl
        clear hw0
        refine wpAnyJ_take0 (i := 0) (v := ?_) rfl (by kernel_rfl) (by kernel_rfl) (by kernel_rfl) (fun _ _ _ h => h) (Or.inl ⟨by rfl, ?_⟩) ?_
        rotate_left
        focus ((intro w hSw; clear hSw; go_simp); try with_reducible rfl)
        (try simp only [Act.put, List.getElem_toArray, List.getElem_cons_zero, List.getElem_cons_succ, List.setIfInBounds_toArray, List.set_cons_zero, List.set_cons_succ])
        refine wpAnyJ_take (i := 1) (v := ?_) rfl (by kernel_rfl) (by kernel_rfl) (by kernel_rfl) (by kernel_rfl) (fun _ _ _ h => h) (Or.inl ⟨by rfl, ?_⟩) (by assumption) ?_
        rotate_left
        focus ((intro w hSw; (try dsimp only at hSw); go_simp); try with_reducible rfl)
        (try simp only [Act.put, List.getElem_toArray, List.getElem_cons_zero, List.getElem_cons_succ, List.setIfInBounds_toArray, List.set_cons_zero, List.set_cons_succ])
        refine wpAnyJ_take0 (i := 2) (v := ?_) rfl (by kernel_rfl) (by kernel_rfl) (by kernel_rfl) (fun _ _ _ h => h) (Or.inl ⟨by rfl, ?_⟩) ?_
        rotate_left
        focus ((intro w hSw; clear hSw; go_simp); try with_reducible rfl)
        (try simp only [Act.put, List.getElem_toArray, List.getElem_cons_zero, List.getElem_cons_succ, List.setIfInBounds_toArray, List.set_cons_zero, List.set_cons_succ])
        refine wpAnyJ_take0 (i := 3) (v := ?_) rfl (by kernel_rfl) (by kernel_rfl) (by kernel_rfl) (fun _ _ _ h => h) (Or.inl ⟨by rfl, ?_⟩) ?_
        rotate_left
        focus ((intro w hSw; clear hSw; go_simp); try with_reducible rfl)
        (try simp only [Act.put, List.getElem_toArray, List.getElem_cons_zero, List.getElem_cons_succ, List.setIfInBounds_toArray, List.set_cons_zero, List.set_cons_succ])
        refine wpAnyJ_take0 (i := 4) (v := ?_) rfl (by kernel_rfl) (by kernel_rfl) (by kernel_rfl) (fun _ _ _ h => h) (Or.inl ⟨by rfl, ?_⟩) ?_
        rotate_left
        focus ((intro w hSw; clear hSw; go_simp); try with_reducible rfl)
        (try simp only [Act.put, List.getElem_toArray, List.getElem_cons_zero, List.getElem_cons_succ, List.setIfInBounds_toArray, List.set_cons_zero, List.set_cons_succ])
        refine wpAnyJ_take0 (i := 5) (v := ?_) rfl (by kernel_rfl) (by kernel_rfl) (by kernel_rfl) (fun _ _ _ h => h) (Or.inl ⟨by rfl, ?_⟩) ?_
        rotate_left
        focus ((intro w hSw; clear hSw; go_simp); try with_reducible rfl)
        (try simp only [Act.put, List.getElem_toArray, List.getElem_cons_zero, List.getElem_cons_succ, List.setIfInBounds_toArray, List.set_cons_zero, List.set_cons_succ])
        refine wpAnyJ_take (i := 6) (v := ?_) rfl (by kernel_rfl) (by kernel_rfl) (by kernel_rfl) (by kernel_rfl) (fun _ _ _ h => h) (Or.inl ⟨by rfl, ?_⟩) (by assumption) ?_
        rotate_left
        focus ((intro w hSw; (try dsimp only at hSw); go_simp); try with_reducible rfl)
        (try simp only [Act.put, List.getElem_toArray, List.getElem_cons_zero, List.getElem_cons_succ, List.setIfInBounds_toArray, List.set_cons_zero, List.set_cons_succ])
        refine wpAnyJ_take0 (i := 7) (v := ?_) rfl (by kernel_rfl) (by kernel_rfl) (by kernel_rfl) (fun _ _ _ h => h) (Or.inl ⟨by rfl, ?_⟩) ?_
        rotate_left
        focus ((intro w hSw; clear hSw; go_simp); try with_reducible rfl)
        (try simp only [Act.put, List.getElem_toArray, List.getElem_cons_zero, List.getElem_cons_succ, List.setIfInBounds_toArray, List.set_cons_zero, List.set_cons_succ])
        refine wpAnyJ_take0 (i := 8) (v := ?_) rfl (by kernel_rfl) (by kernel_rfl) (by kernel_rfl) (fun _ _ _ h => h) (Or.inl ⟨by rfl, ?_⟩) ?_
        rotate_left
        focus ((intro w hSw; clear hSw; go_simp); try with_reducible rfl)
        (try simp only [Act.put, List.getElem_toArray, List.getElem_cons_zero, List.getElem_cons_succ, List.setIfInBounds_toArray, List.set_cons_zero, List.set_cons_succ])
        refine wpAnyJ_take0 (i := 9) (v := ?_) rfl (by kernel_rfl) (by kernel_rfl) (by kernel_rfl) (fun _ _ _ h => h) (Or.inl ⟨by rfl, ?_⟩) ?_
        rotate_left
        focus ((intro w hSw; clear hSw; go_simp); try with_reducible rfl)
        (try simp only [Act.put, List.getElem_toArray, List.getElem_cons_zero, List.getElem_cons_succ, List.setIfInBounds_toArray, List.set_cons_zero, List.set_cons_succ])
        refine wpAnyJ_ready (rs := [10]) (by kernel_rfl) (by simp) ?_
        refine AllReadyJ.cons rfl (fun KK hKK => ?_) AllReadyJ.nil
        generalize (if nc = p + 1 then some (⟨b, off, none⟩ : Addr) else some ⟨b, off + (p + 1) * 4, none⟩) = bo
        refine step_append_zero (by rfl) _ _ 22 (by rfl) 38 iS Try.underlying22 siS (some ⟨b, off, none⟩) _ p p _ (by rfl) (by rfl) (Nat.le_refl _) ?_
        refine hKK.out _ _ (fun _ _ => hHeld) ?_
        clear hKK KK
        (try simp only [Act.put, List.getElem_toArray, List.getElem_cons_zero, List.getElem_cons_succ, List.setIfInBounds_toArray, List.set_cons_zero, List.set_cons_succ])
        refine wpAnyJ_take0 (i := 11) (v := ?_) rfl (by kernel_rfl) (by kernel_rfl) (by kernel_rfl) (fun _ _ _ h => h) (Or.inl ⟨by rfl, ?_⟩) ?_
        rotate_left
        focus ((intro w hSw; clear hSw; go_simp); try with_reducible rfl)
        (try simp only [Act.put, List.getElem_toArray, List.getElem_cons_zero, List.getElem_cons_succ, List.setIfInBounds_toArray, List.set_cons_zero, List.set_cons_succ])
        refine wpAnyJ_ready (rs := [12]) (by kernel_rfl) (by simp) ?_
        refine AllReadyJ.cons rfl (fun KK hKK => ?_) AllReadyJ.nil
        have y0 : w0.cell? ⟨w.heap.size, 0, none⟩ = some (.slice (some ⟨b, off, none⟩) g.nodes.length nc) := HBD.out.cell 0 0 rfl rfl
        have y1 : w0.frozen? ⟨w.heap.size, 0, none⟩ = false := HBD.out.free 0 0 rfl
        go_simp
        clear y0 y1
        refine hKK.out _ _ (fun h => absurd h (by decide)) ?_
        clear hKK KK hHeld
        (try simp only [Act.put, List.getElem_toArray, List.getElem_cons_zero, List.getElem_cons_succ, List.setIfInBounds_toArray, List.set_cons_zero, List.set_cons_succ])
        refine wpAnyJ_done (by kernel_rfl) ?_ _
        refine NoPanic.normal ?_
        clear g1 g2 g2' g3 g4 g5 g6
        have hm := HM9.out
        obtain ⟨w5, hw5⟩ : ∃ w5, w0.setCell ⟨w.heap.size, 0, none⟩ (.slice (some ⟨b, off, none⟩) p p) = w5 := ⟨_, rfl⟩
        have hln : p = (L9).length := by rw [← HL9.out]; simp; omega
        have HBX5 : Hid (Bx w [([.slice (some ⟨b, off, none⟩) p p, .slice ea g.edges.length ec], 25), ([.slice none 0 0, .slice none 0 0], 25)] w5) := Lib.hid (by rw [← hw5]; exact HBD.out.put 0 0 rfl _)
        have hbw : Below w.heap.size w2 w5 := by rw [← hw5]; exact (HDB.out).setCell (Nat.le_refl _) _
        have hrw : SlOk (some ⟨b, off, none⟩) (L9).length p ∧ RowR (IsN w5.heap.size w5) 4 w5.heap.size w5 (some ⟨b, off, none⟩) (L9) := by
          have e9 : (L9) = g.nodes.take p := by rw [← HL9.out, List.drop_of_length_le (by omega), List.append_nil]
          rw [← hln, e9]
          refine ⟨⟨⟨Nat.le_refl _, by have := HSZ.out.2; omega⟩, fun e => by cases e⟩, ?_⟩
          refine ((HFL.out.take p (by omega)).mono (fun cs x h => (h.below hbw hB).mono (Nat.le_trans hB HBX5.out.bel.size))).row (by decide) (.inr ⟨b, off, rfl, by have := HBX5.out.bel.size; omega, fun i v hv => ?_⟩)
          rw [hbw.cell (by show b < _; omega)]
          refine HCE.out i v ?_
          rw [List.getElem?_take] at hv
          split at hv
          · exact hv
          · cases hv
        have hg5 : IsG w5.heap.size w5 [.slice (some ⟨b, off, none⟩) p p, .slice ea g.edges.length ec] ⟨L9, g.edges⟩ := ⟨(some ⟨b, off, none⟩), p, ea, ec, (congrArg (fun z : Nat => ([.slice (some ⟨b, off, none⟩) z p, .slice ea g.edges.length ec] : List Value)) hln : _), hrw.1, HEZ.out, hrw.2, (HES.out.below HBX5.out.bel hB (fun _ _ h => h.below HBX5.out.bel hB)).mono (Nat.le_trans hB HBX5.out.bel.size) (fun _ _ h => h.mono (Nat.le_trans hB HBX5.out.bel.size))⟩
        have HCO := Lib.hid (copyG_any _ _ _ w5 hg5 (Nat.le_refl _) HSM2.out)
        have HW5 := Lib.hid hw5
        have f0_0 : w5.cell? ⟨w.heap.size, 0, none⟩ = some (.slice (some ⟨b, off, none⟩) p p) := HBX5.out.cell 0 0 rfl rfl
        have f0_1 : w5.cell? ⟨w.heap.size, 1, none⟩ = some (.slice ea g.edges.length ec) := HBX5.out.cell 0 1 rfl rfl
        rw [← hw5] at f0_0 f0_1
        clear hw5 hrw hg5 hbw hln
        go_wp2_with fail
        rw [HW5.out]
        refine HCO.out.mono ?_
        rintro e w6 ⟨cs5, bs5, rfl, hb5, hG5, nd5, rg5⟩
        clear f0_0 f0_1
        have hG6 := hG5
        obtain ⟨na5, nc5, ea5, ec5, b51, b52, rfl, -⟩ := hG6
        have HBX6 := Lib.hid (HBX5.out.below hb5)
        have HE5 := Lib.hid (show _ ∧ _ ∧ _ ∧ _ from ⟨hb5, hG5, nd5, rg5⟩)
        clear hb5 hG5 nd5 rg5
        have f1_0 : w6.cell? ⟨w.heap.size + 1, 0, none⟩ = some (.slice none 0 0) := HBX6.out.cell 1 0 rfl rfl
        have f1_1 : w6.cell? ⟨w.heap.size + 1, 1, none⟩ = some (.slice none 0 0) := HBX6.out.cell 1 1 rfl rfl
        have z1_0 : w6.frozen? ⟨w.heap.size + 1, 0, none⟩ = false := HBX6.out.free 1 0 rfl
        have z1_1 : w6.frozen? ⟨w.heap.size + 1, 1, none⟩ = false := HBX6.out.free 1 1 rfl
        obtain ⟨q0, q1⟩ := two_cells (HBX6.out.blk 1 _ _ rfl) (.slice na5 (L9).length nc5) (.slice ea5 g.edges.length ec5)
        have hbf : Hid (Below w.heap.size w ((w6.setCell ⟨w.heap.size + 1, 0, none⟩ (.slice na5 (L9).length nc5)).setCell ⟨w.heap.size + 1, 1, none⟩ (.slice ea5 g.edges.length ec5))) := Lib.hid (((HBX6.out.put 1 0 rfl (.slice na5 (L9).length nc5)).put 1 1 rfl (.slice ea5 g.edges.length ec5)).bel)
        go_wp2_with fail
        refine bodyPost_ret (by simp [results, Try.results18, go_sem, q0, q1]; rfl) rfl ?_
        obtain ⟨hb5, hG5, nd5, rg5⟩ := HE5.out
        have hl4 := HBX5.out.len
        simp only [List.length_cons, List.length_nil] at hl4
        rw [HP.out]
        refine ⟨_, bs5, rfl, hbf.out, hG5.same fun q hq => ?_, nd5, fun q hq => ?_⟩
        · have h9 := rg5 q hq; rw [Below.heap_setCell _ _ _ _ (by show q ≠ w.heap.size + 1; omega), Below.heap_setCell _ _ _ _ (by show q ≠ w.heap.size + 1; omega)]
        · have h9 := rg5 q hq; simp [World.setCell]; omega
      · skip
        have f0_0 : w2.cell? ⟨w.heap.size, 0, none⟩ = some (.slice (some ⟨b, off, none⟩) g.nodes.length nc) := HBX2.out.cell 0 0 rfl rfl
        have f0_1 : w2.cell? ⟨w.heap.size, 1, none⟩ = some (.slice ea g.edges.length ec) := HBX2.out.cell 0 1 rfl rfl
        have g8 : p + 1 < g.nodes.length := by omega
        have g9 : ¬ (p + 1 = nc) := by omega
        have g9' : p + 1 < nc := by omega
        have g9b : ¬ (nc = p + 1) := by omega
        go_wp2_with fail
        clear f0_0 f0_1
        refine wp_region_noPanic ?_
        refine wp_region_J (S := fun u : World => u.cell? ⟨w.heap.size, 0, none⟩ = some (.slice (some ⟨b, off, none⟩) g.nodes.length nc)) (fun j => j == 12) (by kernel_rfl) ?_
        obtain ⟨w0, hw0⟩ : ∃ u, w2.drew = u := ⟨_, rfl⟩
        have HBD : Hid (Bx w [([.slice (some ⟨b, off, none⟩) g.nodes.length nc, .slice ea g.edges.length ec], 25), ([.slice none 0 0, .slice none 0 0], 25)] w0) := Lib.hid (by rw [← hw0]; exact ⟨HBX2.out.bel.drew, HBX2.out.len, fun i c t h => (HBX2.out.blk i c t h).drew⟩)
        have HCD : Hid (∀ q : Addr, w0.cell? q = w2.cell? q) := Lib.hid (fun q => by rw [← hw0]; rfl)
        have HDB : Hid (Below w.heap.size w2 w0) := Lib.hid (by rw [← hw0]; exact (Below.refl _ _).drew)
        have HDS : Hid (w0.heap.size = w2.heap.size) := Lib.hid (by rw [← hw0]; rfl)
        rw [hw0]
        have hHeld : (fun u : World => u.cell? ⟨w.heap.size, 0, none⟩ = some (.slice (some ⟨b, off, none⟩) g.nodes.length nc)) w0 := HBD.out.cell 0 0 rfl rfl
        clear hw0
        refine wpAnyJ_take0 (i := 0) (v := ?_) rfl (by kernel_rfl) (by kernel_rfl) (by kernel_rfl) (fun _ _ _ h => h) (Or.inl ⟨by rfl, ?_⟩) ?_
        rotate_left
        focus ((intro w hSw; clear hSw; go_simp); try with_reducible rfl)
        (try simp only [Act.put, List.getElem_toArray, List.getElem_cons_zero, List.getElem_cons_succ, List.setIfInBounds_toArray, List.set_cons_zero, List.set_cons_succ])
        refine wpAnyJ_take (i := 1) (v := ?_) rfl (by kernel_rfl) (by kernel_rfl) (by kernel_rfl) (by kernel_rfl) (fun _ _ _ h => h) (Or.inl ⟨by rfl, ?_⟩) (by assumption) ?_
        rotate_left
        focus ((intro w hSw; (try dsimp only at hSw); go_simp); try with_reducible rfl)
        (try simp only [Act.put, List.getElem_toArray, List.getElem_cons_zero, List.getElem_cons_succ, List.setIfInBounds_toArray, List.set_cons_zero, List.set_cons_succ])
        refine wpAnyJ_take0 (i := 2) (v := ?_) rfl (by kernel_rfl) (by kernel_rfl) (by kernel_rfl) (fun _ _ _ h => h) (Or.inl ⟨by rfl, ?_⟩) ?_
        rotate_left
        focus ((intro w hSw; clear hSw; go_simp); try with_reducible rfl)
        (try simp only [Act.put, List.getElem_toArray, List.getElem_cons_zero, List.getElem_cons_succ, List.setIfInBounds_toArray, List.set_cons_zero, List.set_cons_succ])
        refine wpAnyJ_take0 (i := 3) (v := ?_) rfl (by kernel_rfl) (by kernel_rfl) (by kernel_rfl) (fun _ _ _ h => h) (Or.inl ⟨by rfl, ?_⟩) ?_
        rotate_left
        focus ((intro w hSw; clear hSw; go_simp); try with_reducible rfl)
        (try simp only [Act.put, List.getElem_toArray, List.getElem_cons_zero, List.getElem_cons_succ, List.setIfInBounds_toArray, List.set_cons_zero, List.set_cons_succ])
        refine wpAnyJ_take0 (i := 4) (v := ?_) rfl (by kernel_rfl) (by kernel_rfl) (by kernel_rfl) (fun _ _ _ h => h) (Or.inl ⟨by rfl, ?_⟩) ?_
        rotate_left
        focus ((intro w hSw; clear hSw; go_simp); try with_reducible rfl)
        (try simp only [Act.put, List.getElem_toArray, List.getElem_cons_zero, List.getElem_cons_succ, List.setIfInBounds_toArray, List.set_cons_zero, List.set_cons_succ])
        refine wpAnyJ_take0 (i := 5) (v := ?_) rfl (by kernel_rfl) (by kernel_rfl) (by kernel_rfl) (fun _ _ _ h => h) (Or.inl ⟨by rfl, ?_⟩) ?_
        rotate_left
        focus ((intro w hSw; clear hSw; go_simp); try with_reducible rfl)
        (try simp only [Act.put, List.getElem_toArray, List.getElem_cons_zero, List.getElem_cons_succ, List.setIfInBounds_toArray, List.set_cons_zero, List.set_cons_succ])
        refine wpAnyJ_take (i := 6) (v := ?_) rfl (by kernel_rfl) (by kernel_rfl) (by kernel_rfl) (by kernel_rfl) (fun _ _ _ h => h) (Or.inl ⟨by rfl, ?_⟩) (by assumption) ?_
        rotate_left
        focus ((intro w hSw; (try dsimp only at hSw); go_simp); try with_reducible rfl)
        (try simp only [Act.put, List.getElem_toArray, List.getElem_cons_zero, List.getElem_cons_succ, List.setIfInBounds_toArray, List.set_cons_zero, List.set_cons_succ])
        refine wpAnyJ_take0 (i := 7) (v := ?_) rfl (by kernel_rfl) (by kernel_rfl) (by kernel_rfl) (fun _ _ _ h => h) (Or.inl ⟨by rfl, ?_⟩) ?_
        rotate_left
        focus ((intro w hSw; clear hSw; go_simp); try with_reducible rfl)
        (try simp only [Act.put, List.getElem_toArray, List.getElem_cons_zero, List.getElem_cons_succ, List.setIfInBounds_toArray, List.set_cons_zero, List.set_cons_succ])
        refine wpAnyJ_take0 (i := 8) (v := ?_) rfl (by kernel_rfl) (by kernel_rfl) (by kernel_rfl) (fun _ _ _ h => h) (Or.inl ⟨by rfl, ?_⟩) ?_
        rotate_left
        focus ((intro w hSw; clear hSw; go_simp); try with_reducible rfl)
        (try simp only [Act.put, List.getElem_toArray, List.getElem_cons_zero, List.getElem_cons_succ, List.setIfInBounds_toArray, List.set_cons_zero, List.set_cons_succ])
        refine wpAnyJ_take0 (i := 9) (v := ?_) rfl (by kernel_rfl) (by kernel_rfl) (by kernel_rfl) (fun _ _ _ h => h) (Or.inl ⟨by rfl, ?_⟩) ?_
        rotate_left
        focus ((intro w hSw; clear hSw; go_simp); try with_reducible rfl)
        (try simp only [Act.put, List.getElem_toArray, List.getElem_cons_zero, List.getElem_cons_succ, List.setIfInBounds_toArray, List.set_cons_zero, List.set_cons_succ])
        refine wpAnyJ_ready (rs := [10]) (by kernel_rfl) (by simp) ?_
        refine AllReadyJ.cons rfl (fun KK hKK => ?_) AllReadyJ.nil
        refine step_append_grows (by rfl) _ _ 22 (by rfl) 38 iS _ 4 80 Try.underlying22 siS szS s1S s2S rfl (by decide) (some ⟨b, off, none⟩) p p (cl.take (p * 4)) (by rfl) (fun e => by cases e) (by rw [List.length_take, HCl.out]; omega) ?holds ((⟨b, off, none⟩ : Addr).add ((p + 1) * 4)) (g.nodes.length - (p + 1)) (nc - (p + 1)) (cl.drop ((p + 1) * 4)) (by rfl) (by rw [List.length_drop, HCl.out, ← Nat.sub_mul]) ?hc (fun u hu => HFL.out.one u (List.mem_of_mem_drop hu)) (by omega) (by unfold maxLen; omega) (by omega) ?_
        case holds =>
          intro bb hb j u hu
          injection hb with hb
          subst hb
          rw [addr_add, HCD.out _]
          refine HCE.out j u ?_
          rw [List.getElem?_take] at hu
          split at hu
          · exact hu
          · cases hu
        case hc =>
          intro j u hu
          rw [List.getElem?_drop] at hu
          rw [Addr.add_lit, Addr.add_lit, HCD.out _, Nat.add_assoc]
          exact HCE.out _ u hu
        intro v' w4 hown hgrow
        have HBX4 : Hid (Bx w [([.slice (some ⟨b, off, none⟩) g.nodes.length nc, .slice ea g.edges.length ec], 25), ([.slice none 0 0, .slice none 0 0], 25)] w4) := Lib.hid (HBD.out.below ((Below.refl _ _).grown hgrow (Nat.le_refl _) (fun k e => by cases e)))
        have hH2 : (fun u : World => u.cell? ⟨w.heap.size, 0, none⟩ = some (.slice (some ⟨b, off, none⟩) g.nodes.length nc)) w4 := HBX4.out.cell 0 0 rfl rfl
        have HOW := Lib.hid hown
        have HGR := Lib.hid hgrow
        obtain ⟨a3, c3, rfl, -, -⟩ := own_cells hown
        refine hKK.out _ _ (fun _ _ => hH2) ?_
        clear hKK KK hHeld hown hgrow
        have hHeld := hH2
        clear hH2
        (try simp only [Act.put, List.getElem_toArray, List.getElem_cons_zero, List.getElem_cons_succ, List.setIfInBounds_toArray, List.set_cons_zero, List.set_cons_succ])
        refine wpAnyJ_take0 (i := 11) (v := ?_) rfl (by kernel_rfl) (by kernel_rfl) (by kernel_rfl) (fun _ _ _ h => h) (Or.inl ⟨by rfl, ?_⟩) ?_
        rotate_left
        focus ((intro w hSw; clear hSw; go_simp); try with_reducible rfl)
        (try simp only [Act.put, List.getElem_toArray, List.getElem_cons_zero, List.getElem_cons_succ, List.setIfInBounds_toArray, List.set_cons_zero, List.set_cons_succ])
        refine wpAnyJ_ready (rs := [12]) (by kernel_rfl) (by simp) ?_
        refine AllReadyJ.cons rfl (fun KK hKK => ?_) AllReadyJ.nil
        have y0 : w4.cell? ⟨w.heap.size, 0, none⟩ = some (.slice (some ⟨b, off, none⟩) g.nodes.length nc) := HBX4.out.cell 0 0 rfl rfl
        have y1 : w4.frozen? ⟨w.heap.size, 0, none⟩ = false := HBX4.out.free 0 0 rfl
        go_simp
        clear y0 y1
        refine hKK.out _ _ (fun h => absurd h (by decide)) ?_
        clear hKK KK hHeld
        (try simp only [Act.put, List.getElem_toArray, List.getElem_cons_zero, List.getElem_cons_succ, List.setIfInBounds_toArray, List.set_cons_zero, List.set_cons_succ])
        refine wpAnyJ_done (by kernel_rfl) ?_ _
        refine NoPanic.normal ?_
        clear g1 g2 g2' g3 g4 g5 g6
        obtain ⟨w5, hw5⟩ : ∃ w5, w4.setCell ⟨w.heap.size, 0, none⟩ (.slice a3 (p + (g.nodes.length - (p + 1))) c3) = w5 := ⟨_, rfl⟩
        have hln : (p + (g.nodes.length - (p + 1))) = (L9).length := by rw [← HL9.out]; simp; omega
        have HBX5 : Hid (Bx w [([.slice a3 (p + (g.nodes.length - (p + 1))) c3, .slice ea g.edges.length ec], 25), ([.slice none 0 0, .slice none 0 0], 25)] w5) := Lib.hid (by rw [← hw5]; exact HBX4.out.put 0 0 rfl _)
        have hbw : Below w.heap.size w2 w5 := by rw [← hw5]; exact ((HDB.out.grown HGR.out (by rw [HDS.out]; exact HBX2.out.bel.size) (fun k e => by cases e))).setCell (Nat.le_refl _) _
        have hrw : SlOk a3 (L9).length c3 ∧ RowR (IsN w5.heap.size w5) 4 w5.heap.size w5 a3 (L9) := by
          have hF3 : FlatR (IsN B w2) 4 (cl.take (p * 4) ++ cl.drop ((p + 1) * 4)) (L9) := by rw [← HL9.out]; exact (HFL.out.take p (by omega)).append (HFL.out.drop (p + 1))
          have ho : w5.ownsRow w0.heap.size 38 4 (.slice a3 (p + (g.nodes.length - (p + 1))) c3) (p + (g.nodes.length - (p + 1))) (cl.take (p * 4) ++ cl.drop ((p + 1) * 4)) := by rw [← hw5]; exact own_frame HOW.out fun q hq _ => Below.heap_setCell _ _ _ _ (by have := HBD.out.len; simp at this; show q ≠ w.heap.size; omega)
          obtain ⟨a', c', e, h1, h2⟩ := own_cells ho
          injection e with e1 e2 e3
          subst e1 e3
          rw [← hln]
          exact ⟨h1, (hF3.mono (fun cs x h => (h.below hbw hB).mono (Nat.le_trans hB HBX5.out.bel.size))).row (by decide) h2⟩
        have hg5 : IsG w5.heap.size w5 [.slice a3 (p + (g.nodes.length - (p + 1))) c3, .slice ea g.edges.length ec] ⟨L9, g.edges⟩ := ⟨a3, c3, ea, ec, (congrArg (fun z : Nat => ([.slice a3 z c3, .slice ea g.edges.length ec] : List Value)) hln : _), hrw.1, HEZ.out, hrw.2, (HES.out.below HBX5.out.bel hB (fun _ _ h => h.below HBX5.out.bel hB)).mono (Nat.le_trans hB HBX5.out.bel.size) (fun _ _ h => h.mono (Nat.le_trans hB HBX5.out.bel.size))⟩
        have HCO := Lib.hid (copyG_any _ _ _ w5 hg5 (Nat.le_refl _) HSM2.out)
        have HW5 := Lib.hid hw5
        have f0_0 : w5.cell? ⟨w.heap.size, 0, none⟩ = some (.slice a3 (p + (g.nodes.length - (p + 1))) c3) := HBX5.out.cell 0 0 rfl rfl
        have f0_1 : w5.cell? ⟨w.heap.size, 1, none⟩ = some (.slice ea g.edges.length ec) := HBX5.out.cell 0 1 rfl rfl
        rw [← hw5] at f0_0 f0_1
        clear hw5 hrw hg5 hbw hln
        go_wp2_with fail
        rw [HW5.out]
        refine HCO.out.mono ?_
        rintro e w6 ⟨cs5, bs5, rfl, hb5, hG5, nd5, rg5⟩
        clear f0_0 f0_1
        have hG6 := hG5
        obtain ⟨na5, nc5, ea5, ec5, b51, b52, rfl, -⟩ := hG6
        have HBX6 := Lib.hid (HBX5.out.below hb5)
        have HE5 := Lib.hid (show _ ∧ _ ∧ _ ∧ _ from ⟨hb5, hG5, nd5, rg5⟩)
        clear hb5 hG5 nd5 rg5
        have f1_0 : w6.cell? ⟨w.heap.size + 1, 0, none⟩ = some (.slice none 0 0) := HBX6.out.cell 1 0 rfl rfl
        have f1_1 : w6.cell? ⟨w.heap.size + 1, 1, none⟩ = some (.slice none 0 0) := HBX6.out.cell 1 1 rfl rfl
        have z1_0 : w6.frozen? ⟨w.heap.size + 1, 0, none⟩ = false := HBX6.out.free 1 0 rfl
        have z1_1 : w6.frozen? ⟨w.heap.size + 1, 1, none⟩ = false := HBX6.out.free 1 1 rfl
        obtain ⟨q0, q1⟩ := two_cells (HBX6.out.blk 1 _ _ rfl) (.slice na5 (L9).length nc5) (.slice ea5 g.edges.length ec5)
        have hbf : Hid (Below w.heap.size w ((w6.setCell ⟨w.heap.size + 1, 0, none⟩ (.slice na5 (L9).length nc5)).setCell ⟨w.heap.size + 1, 1, none⟩ (.slice ea5 g.edges.length ec5))) := Lib.hid (((HBX6.out.put 1 0 rfl (.slice na5 (L9).length nc5)).put 1 1 rfl (.slice ea5 g.edges.length ec5)).bel)
        go_wp2_with fail
        refine bodyPost_ret (by simp [results, Try.results18, go_sem, q0, q1]; rfl) rfl ?_
        obtain ⟨hb5, hG5, nd5, rg5⟩ := HE5.out
        have hl4 := HBX5.out.len
        simp only [List.length_cons, List.length_nil] at hl4
        rw [HP.out]
        refine ⟨_, bs5, rfl, hbf.out, hG5.same fun q hq => ?_, nd5, fun q hq => ?_⟩
        · have h9 := rg5 q hq; rw [Below.heap_setCell _ _ _ _ (by show q ≠ w.heap.size + 1; omega), Below.heap_setCell _ _ _ _ (by show q ≠ w.heap.size + 1; omega)]
        · have h9 := rg5 q hq; simp [World.setCell]; omega

set_option maxHeartbeats 16000000 in
theorem cut_any (g : Gt) (id : Int) (cs : List Value) (B : Nat) (w : World) (hg : IsG B w cs g) (hB : B ≤ w.heap.size) (hr : RiseI (idsE g)) (hsm : SmG g) :
    Calls Try.prog 22 #[.agg cs.toArray, .int .i64 id] w (ResP (cutG g id) w) := by
  have hg0 := hg
  obtain ⟨na, nc, ea, ec, rfl, hnz, hez, hN, hE⟩ := hg
  show Calls Try.prog 22 #[.agg #[.slice na g.nodes.length nc, .slice ea g.edges.length ec], .int .i64 id] w _
  have hsm0 := hsm
  obtain ⟨⟨hnl, hel⟩, hs1, hs2⟩ := hsm
  obtain ⟨iS, siS, szS, s1S, s2S⟩ := info_parts Try.infoEdge
  obtain ⟨W0, hW0⟩ : ∃ W0, (w.alloc (.cells #[.slice na g.nodes.length nc, .slice ea g.edges.length ec] 25)).alloc (.cells #[.slice none 0 0, .slice none 0 0] 25) = W0 := ⟨_, rfl⟩
  have HBX : Hid (Bx w [([.slice na g.nodes.length nc, .slice ea g.edges.length ec], 25), ([.slice none 0 0, .slice none 0 0], 25)] W0) := Lib.hid (by rw [← hW0]; exact ((((Bx.nil w).alloc rfl [.slice na g.nodes.length nc, .slice ea g.edges.length ec] 25)).alloc (by simp) [.slice none 0 0, .slice none 0 0] 25))
  have HW0 := Lib.hid hW0
  have HFI := Lib.hid (fun (w' : World) (hb : Below w.heap.size w w') => findEdge_any g.edges id ea ec B w' (hE.below hb hB (fun _ _ h => h.below hb hB)) (Nat.le_trans hB hb.size) (by omega) hr)
  have HNZ := Lib.hid hnz
  have HEZ := Lib.hid hez
  have HNS := Lib.hid hN
  have HES := Lib.hid hE
  have HSM2 : Hid (∀ p, SmG ⟨g.nodes, g.edges.take p ++ g.edges.drop (p + 1)⟩) := Lib.hid (fun p => ⟨by constructor <;> simp <;> omega, hs1, fun j y hy => by rcases List.mem_append.1 (List.mem_of_getElem? hy) with h | h; exact (List.getElem?_of_mem (List.mem_of_mem_take h)).elim fun i hi => hs2 i y hi; exact (List.getElem?_of_mem (List.mem_of_mem_drop h)).elim fun i hi => hs2 i y hi⟩)
  have HPT := Lib.hid (fun h => posI_lt (l := idsE g) (id := id) h)
  have hil : (idsE g).length = g.edges.length := by unfold idsE; simp
  rw [hil] at HPT
  have i0_0 : W0.cell? ⟨w.heap.size, 0, none⟩ = some (.slice na g.nodes.length nc) := HBX.out.cell 0 0 rfl rfl
  have i0_1 : W0.cell? ⟨w.heap.size, 1, none⟩ = some (.slice ea g.edges.length ec) := HBX.out.cell 0 1 rfl rfl
  have i1_0 : W0.cell? ⟨w.heap.size + 1, 0, none⟩ = some (.slice none 0 0) := HBX.out.cell 1 0 rfl rfl
  have i1_1 : W0.cell? ⟨w.heap.size + 1, 1, none⟩ = some (.slice none 0 0) := HBX.out.cell 1 1 rfl rfl
  rw [← hW0] at i0_0 i0_1 i1_0 i1_1
  clear hW0 hg0 hN hE hnz hez hr hs1 hs2 hil hsm0
  go_enter Try.func22, Try.ntmps22
  go_wp2_with fail
  rw [HW0.out]
  refine (HFI.out _ HBX.out.bel).mono ?_
  rintro e w1 ⟨rfl, hb1⟩
  have HBX1 := Lib.hid (HBX.out.below hb1)
  clear i0_0 i0_1 i1_0 i1_1 hb1
  obtain ⟨p, hp⟩ : ∃ p, posI (idsE g) id = p := ⟨_, rfl⟩
  obtain ⟨is, his⟩ : ∃ is, hasI (idsE g) id = is := ⟨_, rfl⟩
  have HPI := Lib.hid hp
  have HII := Lib.hid his
  rw [hp] at HPT
  rw [his] at HPT
  change posI (g.edges.map (·.id)) id = p at hp
  change hasI (g.edges.map (·.id)) id = is at his
  rw [hp, his]
  clear hp his
  cases is with
  | false =>
    have HP : Hid (cutG g id = (23, noG)) := Lib.hid (by unfold cutG; rw [if_pos HII.out])
    have f1_0 : w1.cell? ⟨w.heap.size + 1, 0, none⟩ = some (.slice none 0 0) := HBX1.out.cell 1 0 rfl rfl
    have f1_1 : w1.cell? ⟨w.heap.size + 1, 1, none⟩ = some (.slice none 0 0) := HBX1.out.cell 1 1 rfl rfl
    have z1_0 : w1.frozen? ⟨w.heap.size + 1, 0, none⟩ = false := HBX1.out.free 1 0 rfl
    have z1_1 : w1.frozen? ⟨w.heap.size + 1, 1, none⟩ = false := HBX1.out.free 1 1 rfl
    obtain ⟨q0, q1⟩ := two_cells (HBX1.out.blk 1 _ _ rfl) (.slice none 0 0) (.slice none 0 0)
    go_wp2_with fail
    refine bodyPost_ret (by simp [results, Try.results22, go_sem, q0, q1]; rfl) rfl ?_
    rw [HP.out]
    exact ResP.err _ ((HBX1.out.put 1 0 rfl (.slice none 0 0)).put 1 1 rfl (.slice none 0 0)).bel
  | true =>
    have hplt := HPT.out rfl
    obtain ⟨L9, hL9⟩ : ∃ L9, g.edges.take p ++ g.edges.drop (p + 1) = L9 := ⟨_, rfl⟩
    have HSM3 := HSM2.out p
    rw [hL9] at HSM3
    clear HSM2
    have HSM2 := Lib.hid HSM3
    clear HSM3
    have HL9 := Lib.hid hL9
    clear hL9
    have hplt' : (p : Int) < g.edges.length := by omega
    have hp0 : (0 : Int) ≤ p := by omega
    have HP : Hid (cutG g id = (0, ⟨g.nodes, L9⟩)) := Lib.hid (by unfold cutG; rw [if_neg (by rw [HII.out]; simp), HPI.out, HL9.out])
    obtain ⟨cl, hF, hC⟩ := (HES.out.below HBX1.out.bel hB (fun _ _ h => h.below HBX1.out.bel hB)).flat IsE.one (by decide)
    have hBw : B ≤ w.heap.size := hB
    obtain ⟨b, off, ena, hbB, hcells⟩ : ∃ b off, ea = some ⟨b, off, none⟩ ∧ b < B ∧ ∀ i v, cl[i]? = some v → w1.cell? ⟨b, off + i, none⟩ = some v := by
      rcases hC with h | ⟨b, off, h1, h2, h3⟩
      · have h9 := hF.len; rw [h] at h9; simp at h9; omega
      · exact ⟨b, off, h1, h2, h3⟩
    have HFL := Lib.hid hF
    have HCE := Lib.hid hcells
    have hCl := hF.len
    have HCl := Lib.hid hCl
    have hsc : g.edges.length ≤ ec := HEZ.out.1.1
    have hsm : ec ≤ 9223372036854775807 := HEZ.out.1.2
    have HSZ := Lib.hid (show _ ∧ _ from ⟨hsc, hsm⟩)
    subst ena
    have g1 : (p : Int) ≤ ec := by omega
    have g2 : ¬ (ec < p) := by omega
    have g2' : p ≤ ec := by omega
    have g3 : IntKind.i64.wrap ((p : Int) + 1) = (p : Int) + 1 := IntWalk.i64_in _ (by omega)
    have g4 : (p : Int) + 1 ≤ g.edges.length := by omega
    have g5 : ¬ (g.edges.length < p + 1) := by omega
    have g6 : (0 : Int) ≤ (p : Int) + 1 := by omega
    clear hF hC hcells hCl
    skip
    by_cases hm : p + 1 = g.edges.length
    · have HM9 := Lib.hid hm
      have f0_0 : w1.cell? ⟨w.heap.size, 0, none⟩ = some (.slice na g.nodes.length nc) := HBX1.out.cell 0 0 rfl rfl
      have f0_1 : w1.cell? ⟨w.heap.size, 1, none⟩ = some (.slice (some ⟨b, off, none⟩) g.edges.length ec) := HBX1.out.cell 0 1 rfl rfl
      have g7 : g.edges.length - (p + 1) = 0 := by omega
      clear hm
      go_wp2_with fail
      clear f0_0 f0_1
      refine wp_region_noPanic ?_
      refine wp_region_J (S := fun u : World => u.cell? ⟨w.heap.size, 1, none⟩ = some (.slice (some ⟨b, off, none⟩) g.edges.length ec)) (fun j => j == 12) (by kernel_rfl) ?_
      obtain ⟨w0, hw0⟩ : ∃ u, w1.drew = u := ⟨_, rfl⟩
      have HBD : Hid (Bx w [([.slice na g.nodes.length nc, .slice (some ⟨b, off, none⟩) g.edges.length ec], 25), ([.slice none 0 0, .slice none 0 0], 25)] w0) := Lib.hid (by rw [← hw0]; exact ⟨HBX1.out.bel.drew, HBX1.out.len, fun i c t h => (HBX1.out.blk i c t h).drew⟩)
      have HCD : Hid (∀ q : Addr, w0.cell? q = w1.cell? q) := Lib.hid (fun q => by rw [← hw0]; rfl)
      have HDB : Hid (Below w.heap.size w1 w0) := Lib.hid (by rw [← hw0]; exact (Below.refl _ _).drew)
      have HDS : Hid (w0.heap.size = w1.heap.size) := Lib.hid (by rw [← hw0]; rfl)
      rw [hw0]
      have hHeld : (fun u : World => u.cell? ⟨w.heap.size, 1, none⟩ = some (.slice (some ⟨b, off, none⟩) g.edges.length ec)) w0 := HBD.out.cell 0 1 rfl rfl
      clear hw0
      refine wpAnyJ_take0 (i := 0) (v := ?_) rfl (by kernel_rfl) (by kernel_rfl) (by kernel_rfl) (fun _ _ _ h => h) (Or.inl ⟨by rfl, ?_⟩) ?_
      rotate_left
      focus ((intro w hSw; clear hSw; go_simp); try with_reducible rfl)
      (try simp only [Act.put, List.getElem_toArray, List.getElem_cons_zero, List.getElem_cons_succ, List.setIfInBounds_toArray, List.set_cons_zero, List.set_cons_succ])
      refine wpAnyJ_take (i := 1) (v := ?_) rfl (by kernel_rfl) (by kernel_rfl) (by kernel_rfl) (by kernel_rfl) (fun _ _ _ h => h) (Or.inl ⟨by rfl, ?_⟩) (by assumption) ?_
      rotate_left
      focus ((intro w hSw; (try dsimp only at hSw); go_simp); try with_reducible rfl)
      (try simp only [Act.put, List.getElem_toArray, List.getElem_cons_zero, List.getElem_cons_succ, List.setIfInBounds_toArray, List.set_cons_zero, List.set_cons_succ])
      refine wpAnyJ_take0 (i := 2) (v := ?_) rfl (by kernel_rfl) (by kernel_rfl) (by kernel_rfl) (fun _ _ _ h => h) (Or.inl ⟨by rfl, ?_⟩) ?_
      rotate_left
      focus ((intro w hSw; clear hSw; go_simp); try with_reducible rfl)
      (try simp only [Act.put, List.getElem_toArray, List.getElem_cons_zero, List.getElem_cons_succ, List.setIfInBounds_toArray, List.set_cons_zero, List.set_cons_succ])
      refine wpAnyJ_take0 (i := 3) (v := ?_) rfl (by kernel_rfl) (by kernel_rfl) (by kernel_rfl) (fun _ _ _ h => h) (Or.inl ⟨by rfl, ?_⟩) ?_
      rotate_left
      focus ((intro w hSw; clear hSw; go_simp); try with_reducible rfl)
      (try simp only [Act.put, List.getElem_toArray, List.getElem_cons_zero, List.getElem_cons_succ, List.setIfInBounds_toArray, List.set_cons_zero, List.set_cons_succ])
      refine wpAnyJ_take0 (i := 4) (v := ?_) rfl (by kernel_rfl) (by kernel_rfl) (by kernel_rfl) (fun _ _ _ h => h) (Or.inl ⟨by rfl, ?_⟩) ?_
      rotate_left
      focus ((intro w hSw; clear hSw; go_simp); try with_reducible rfl)
      (try simp only [Act.put, List.getElem_toArray, List.getElem_cons_zero, List.getElem_cons_succ, List.setIfInBounds_toArray, List.set_cons_zero, List.set_cons_succ])
      refine wpAnyJ_take0 (i := 5) (v := ?_) rfl (by kernel_rfl) (by kernel_rfl) (by kernel_rfl) (fun _ _ _ h => h) (Or.inl ⟨by rfl, ?_⟩) ?_
      rotate_left
      focus ((intro w hSw; clear hSw; go_simp); try with_reducible rfl)
      (try simp only [Act.put, List.getElem_toArray, List.getElem_cons_zero, List.getElem_cons_succ, List.setIfInBounds_toArray, List.set_cons_zero, List.set_cons_succ])
      refine wpAnyJ_take (i := 6) (v := ?_) rfl (by kernel_rfl) (by kernel_rfl) (by kernel_rfl) (by kernel_rfl) (fun _ _ _ h => h) (Or.inl ⟨by rfl, ?_⟩) (by assumption) ?_
      rotate_left
      focus ((intro w hSw; (try dsimp only at hSw); go_simp); try with_reducible rfl)
      (try simp only [Act.put, List.getElem_toArray, List.getElem_cons_zero, List.getElem_cons_succ, List.setIfInBounds_toArray, List.set_cons_zero, List.set_cons_succ])
      refine wpAnyJ_take0 (i := 7) (v := ?_) rfl (by kernel_rfl) (by kernel_rfl) (by kernel_rfl) (fun _ _ _ h => h) (Or.inl ⟨by rfl, ?_⟩) ?_
      rotate_left
      focus ((intro w hSw; clear hSw; go_simp); try with_reducible rfl)
      (try simp only [Act.put, List.getElem_toArray, List.getElem_cons_zero, List.getElem_cons_succ, List.setIfInBounds_toArray, List.set_cons_zero, List.set_cons_succ])
      refine wpAnyJ_take0 (i := 8) (v := ?_) rfl (by kernel_rfl) (by kernel_rfl) (by kernel_rfl) (fun _ _ _ h => h) (Or.inl ⟨by rfl, ?_⟩) ?_
      rotate_left
      focus ((intro w hSw; clear hSw; go_simp); try with_reducible rfl)
      (try simp only [Act.put, List.getElem_toArray, List.getElem_cons_zero, List.getElem_cons_succ, List.setIfInBounds_toArray, List.set_cons_zero, List.set_cons_succ])
      refine wpAnyJ_take0 (i := 9) (v := ?_) rfl (by kernel_rfl) (by kernel_rfl) (by kernel_rfl) (fun _ _ _ h => h) (Or.inl ⟨by rfl, ?_⟩) ?_
      rotate_left
      focus ((intro w hSw; clear hSw; go_simp); try with_reducible rfl)
      (try simp only [Act.put, List.getElem_toArray, List.getElem_cons_zero, List.getElem_cons_succ, List.setIfInBounds_toArray, List.set_cons_zero, List.set_cons_succ])
      refine wpAnyJ_ready (rs := [10]) (by kernel_rfl) (by simp) ?_
      refine AllReadyJ.cons rfl (fun KK hKK => ?_) AllReadyJ.nil
      generalize (if ec = p + 1 then some (⟨b, off, none⟩ : Addr) else some ⟨b, off + (p + 1) * 6, none⟩) = bo
      refine step_append_zero (by rfl) _ _ 23 (by rfl) 40 iS Try.underlying23 siS (some ⟨b, off, none⟩) _ p p _ (by rfl) (by rfl) (Nat.le_refl _) ?_
      refine hKK.out _ _ (fun _ _ => hHeld) ?_
      clear hKK KK
      (try simp only [Act.put, List.getElem_toArray, List.getElem_cons_zero, List.getElem_cons_succ, List.setIfInBounds_toArray, List.set_cons_zero, List.set_cons_succ])
      refine wpAnyJ_take0 (i := 11) (v := ?_) rfl (by kernel_rfl) (by kernel_rfl) (by kernel_rfl) (fun _ _ _ h => h) (Or.inl ⟨by rfl, ?_⟩) ?_
      rotate_left
      focus ((intro w hSw; clear hSw; go_simp); try with_reducible rfl)
      (try simp only [Act.put, List.getElem_toArray, List.getElem_cons_zero, List.getElem_cons_succ, List.setIfInBounds_toArray, List.set_cons_zero, List.set_cons_succ])
      refine wpAnyJ_ready (rs := [12]) (by kernel_rfl) (by simp) ?_
      refine AllReadyJ.cons rfl (fun KK hKK => ?_) AllReadyJ.nil
      have y0 : w0.cell? ⟨w.heap.size, 1, none⟩ = some (.slice (some ⟨b, off, none⟩) g.edges.length ec) := HBD.out.cell 0 1 rfl rfl
      have y1 : w0.frozen? ⟨w.heap.size, 1, none⟩ = false := HBD.out.free 0 1 rfl
      go_simp
      clear y0 y1
      refine hKK.out _ _ (fun h => absurd h (by decide)) ?_
      clear hKK KK hHeld
      (try simp only [Act.put, List.getElem_toArray, List.getElem_cons_zero, List.getElem_cons_succ, List.setIfInBounds_toArray, List.set_cons_zero, List.set_cons_succ])
      refine wpAnyJ_done (by kernel_rfl) ?_ _
      refine NoPanic.normal ?_
      clear g1 g2 g2' g3 g4 g5 g6
      have hm := HM9.out
      obtain ⟨w5, hw5⟩ : ∃ w5, w0.setCell ⟨w.heap.size, 1, none⟩ (.slice (some ⟨b, off, none⟩) p p) = w5 := ⟨_, rfl⟩
      have hln : p = (L9).length := by rw [← HL9.out]; simp; omega
      have HBX5 : Hid (Bx w [([.slice na g.nodes.length nc, .slice (some ⟨b, off, none⟩) p p], 25), ([.slice none 0 0, .slice none 0 0], 25)] w5) := Lib.hid (by rw [← hw5]; exact HBD.out.put 0 1 rfl _)
      have hbw : Below w.heap.size w1 w5 := by rw [← hw5]; exact (HDB.out).setCell (Nat.le_refl _) _
      have hrw : SlOk (some ⟨b, off, none⟩) (L9).length p ∧ RowR (IsE w5.heap.size w5) 6 w5.heap.size w5 (some ⟨b, off, none⟩) (L9) := by
        have e9 : (L9) = g.edges.take p := by rw [← HL9.out, List.drop_of_length_le (by omega), List.append_nil]
        rw [← hln, e9]
        refine ⟨⟨⟨Nat.le_refl _, by have := HSZ.out.2; omega⟩, fun e => by cases e⟩, ?_⟩
        refine ((HFL.out.take p (by omega)).mono (fun cs x h => (h.below hbw hB).mono (Nat.le_trans hB HBX5.out.bel.size))).row (by decide) (.inr ⟨b, off, rfl, by have := HBX5.out.bel.size; omega, fun i v hv => ?_⟩)
        rw [hbw.cell (by show b < _; omega)]
        refine HCE.out i v ?_
        rw [List.getElem?_take] at hv
        split at hv
        · exact hv
        · cases hv
      have hg5 : IsG w5.heap.size w5 [.slice na g.nodes.length nc, .slice (some ⟨b, off, none⟩) p p] ⟨g.nodes, L9⟩ := ⟨na, nc, (some ⟨b, off, none⟩), p, (congrArg (fun z : Nat => ([.slice na g.nodes.length nc, .slice (some ⟨b, off, none⟩) z p] : List Value)) hln : _), HNZ.out, hrw.1, (HNS.out.below HBX5.out.bel hB (fun _ _ h => h.below HBX5.out.bel hB)).mono (Nat.le_trans hB HBX5.out.bel.size) (fun _ _ h => h.mono (Nat.le_trans hB HBX5.out.bel.size)), hrw.2⟩
      have HCO := Lib.hid (copyG_any _ _ _ w5 hg5 (Nat.le_refl _) HSM2.out)
      have HW5 := Lib.hid hw5
      have f0_0 : w5.cell? ⟨w.heap.size, 0, none⟩ = some (.slice na g.nodes.length nc) := HBX5.out.cell 0 0 rfl rfl
      have f0_1 : w5.cell? ⟨w.heap.size, 1, none⟩ = some (.slice (some ⟨b, off, none⟩) p p) := HBX5.out.cell 0 1 rfl rfl
      rw [← hw5] at f0_0 f0_1
      clear hw5 hrw hg5 hbw hln
      go_wp2_with fail
      rw [HW5.out]
      refine HCO.out.mono ?_
      rintro e w6 ⟨cs5, bs5, rfl, hb5, hG5, nd5, rg5⟩
      clear f0_0 f0_1
      have hG6 := hG5
      obtain ⟨na5, nc5, ea5, ec5, b51, b52, rfl, -⟩ := hG6
      have HBX6 := Lib.hid (HBX5.out.below hb5)
      have HE5 := Lib.hid (show _ ∧ _ ∧ _ ∧ _ from ⟨hb5, hG5, nd5, rg5⟩)
      clear hb5 hG5 nd5 rg5
      have f1_0 : w6.cell? ⟨w.heap.size + 1, 0, none⟩ = some (.slice none 0 0) := HBX6.out.cell 1 0 rfl rfl
      have f1_1 : w6.cell? ⟨w.heap.size + 1, 1, none⟩ = some (.slice none 0 0) := HBX6.out.cell 1 1 rfl rfl
      have z1_0 : w6.frozen? ⟨w.heap.size + 1, 0, none⟩ = false := HBX6.out.free 1 0 rfl
      have z1_1 : w6.frozen? ⟨w.heap.size + 1, 1, none⟩ = false := HBX6.out.free 1 1 rfl
      obtain ⟨q0, q1⟩ := two_cells (HBX6.out.blk 1 _ _ rfl) (.slice na5 g.nodes.length nc5) (.slice ea5 (L9).length ec5)
      have hbf : Hid (Below w.heap.size w ((w6.setCell ⟨w.heap.size + 1, 0, none⟩ (.slice na5 g.nodes.length nc5)).setCell ⟨w.heap.size + 1, 1, none⟩ (.slice ea5 (L9).length ec5))) := Lib.hid (((HBX6.out.put 1 0 rfl (.slice na5 g.nodes.length nc5)).put 1 1 rfl (.slice ea5 (L9).length ec5)).bel)
      go_wp2_with fail
      refine bodyPost_ret (by simp [results, Try.results22, go_sem, q0, q1]; rfl) rfl ?_
      obtain ⟨hb5, hG5, nd5, rg5⟩ := HE5.out
      have hl4 := HBX5.out.len
      simp only [List.length_cons, List.length_nil] at hl4
      rw [HP.out]
      refine ⟨_, bs5, rfl, hbf.out, hG5.same fun q hq => ?_, nd5, fun q hq => ?_⟩
      · have h9 := rg5 q hq; rw [Below.heap_setCell _ _ _ _ (by show q ≠ w.heap.size + 1; omega), Below.heap_setCell _ _ _ _ (by show q ≠ w.heap.size + 1; omega)]
      · have h9 := rg5 q hq; simp [World.setCell]; omega
    · skip
      have f0_0 : w1.cell? ⟨w.heap.size, 0, none⟩ = some (.slice na g.nodes.length nc) := HBX1.out.cell 0 0 rfl rfl
      have f0_1 : w1.cell? ⟨w.heap.size, 1, none⟩ = some (.slice (some ⟨b, off, none⟩) g.edges.length ec) := HBX1.out.cell 0 1 rfl rfl
      have g8 : p + 1 < g.edges.length := by omega
      have g9 : ¬ (p + 1 = ec) := by omega
      have g9' : p + 1 < ec := by omega
      have g9b : ¬ (ec = p + 1) := by omega
      go_wp2_with fail
      clear f0_0 f0_1
      refine wp_region_noPanic ?_
      refine wp_region_J (S := fun u : World => u.cell? ⟨w.heap.size, 1, none⟩ = some (.slice (some ⟨b, off, none⟩) g.edges.length ec)) (fun j => j == 12) (by kernel_rfl) ?_
      obtain ⟨w0, hw0⟩ : ∃ u, w1.drew = u := ⟨_, rfl⟩
      have HBD : Hid (Bx w [([.slice na g.nodes.length nc, .slice (some ⟨b, off, none⟩) g.edges.length ec], 25), ([.slice none 0 0, .slice none 0 0], 25)] w0) := Lib.hid (by rw [← hw0]; exact ⟨HBX1.out.bel.drew, HBX1.out.len, fun i c t h => (HBX1.out.blk i c t h).drew⟩)
      have HCD : Hid (∀ q : Addr, w0.cell? q = w1.cell? q) := Lib.hid (fun q => by rw [← hw0]; rfl)
      have HDB : Hid (Below w.heap.size w1 w0) := Lib.hid (by rw [← hw0]; exact (Below.refl _ _).drew)
      have HDS : Hid (w0.heap.size = w1.heap.size) := Lib.hid (by rw [← hw0]; rfl)
      rw [hw0]
      have hHeld : (fun u : World => u.cell? ⟨w.heap.size, 1, none⟩ = some (.slice (some ⟨b, off, none⟩) g.edges.length ec)) w0 := HBD.out.cell 0 1 rfl rfl
      clear hw0
      refine wpAnyJ_take0 (i := 0) (v := ?_) rfl (by kernel_rfl) (by kernel_rfl) (by kernel_rfl) (fun _ _ _ h => h) (Or.inl ⟨by rfl, ?_⟩) ?_
      rotate_left
      focus ((intro w hSw; clear hSw; go_simp); try with_reducible rfl)
      (try simp only [Act.put, List.getElem_toArray, List.getElem_cons_zero, List.getElem_cons_succ, List.setIfInBounds_toArray, List.set_cons_zero, List.set_cons_succ])
      refine wpAnyJ_take (i := 1) (v := ?_) rfl (by kernel_rfl) (by kernel_rfl) (by kernel_rfl) (by kernel_rfl) (fun _ _ _ h => h) (Or.inl ⟨by rfl, ?_⟩) (by assumption) ?_
      rotate_left
      focus ((intro w hSw; (try dsimp only at hSw); go_simp); try with_reducible rfl)
      (try simp only [Act.put, List.getElem_toArray, List.getElem_cons_zero, List.getElem_cons_succ, List.setIfInBounds_toArray, List.set_cons_zero, List.set_cons_succ])
      refine wpAnyJ_take0 (i := 2) (v := ?_) rfl (by kernel_rfl) (by kernel_rfl) (by kernel_rfl) (fun _ _ _ h => h) (Or.inl ⟨by rfl, ?_⟩) ?_
      rotate_left
      focus ((intro w hSw; clear hSw; go_simp); try with_reducible rfl)
      (try simp only [Act.put, List.getElem_toArray, List.getElem_cons_zero, List.getElem_cons_succ, List.setIfInBounds_toArray, List.set_cons_zero, List.set_cons_succ])
      refine wpAnyJ_take0 (i := 3) (v := ?_) rfl (by kernel_rfl) (by kernel_rfl) (by kernel_rfl) (fun _ _ _ h => h) (Or.inl ⟨by rfl, ?_⟩) ?_
      rotate_left
      focus ((intro w hSw; clear hSw; go_simp); try with_reducible rfl)
      (try simp only [Act.put, List.getElem_toArray, List.getElem_cons_zero, List.getElem_cons_succ, List.setIfInBounds_toArray, List.set_cons_zero, List.set_cons_succ])
      refine wpAnyJ_take0 (i := 4) (v := ?_) rfl (by kernel_rfl) (by kernel_rfl) (by kernel_rfl) (fun _ _ _ h => h) (Or.inl ⟨by rfl, ?_⟩) ?_
      rotate_left
      focus ((intro w hSw; clear hSw; go_simp); try with_reducible rfl)
      (try simp only [Act.put, List.getElem_toArray, List.getElem_cons_zero, List.getElem_cons_succ, List.setIfInBounds_toArray, List.set_cons_zero, List.set_cons_succ])
      refine wpAnyJ_take0 (i := 5) (v := ?_) rfl (by kernel_rfl) (by kernel_rfl) (by kernel_rfl) (fun _ _ _ h => h) (Or.inl ⟨by rfl, ?_⟩) ?_
      rotate_left
      focus ((intro w hSw; clear hSw; go_simp); try with_reducible rfl)
      (try simp only [Act.put, List.getElem_toArray, List.getElem_cons_zero, List.getElem_cons_succ, List.setIfInBounds_toArray, List.set_cons_zero, List.set_cons_succ])
      refine wpAnyJ_take (i := 6) (v := ?_) rfl (by kernel_rfl) (by kernel_rfl) (by kernel_rfl) (by kernel_rfl) (fun _ _ _ h => h) (Or.inl ⟨by rfl, ?_⟩) (by assumption) ?_
      rotate_left
      focus ((intro w hSw; (try dsimp only at hSw); go_simp); try with_reducible rfl)
      (try simp only [Act.put, List.getElem_toArray, List.getElem_cons_zero, List.getElem_cons_succ, List.setIfInBounds_toArray, List.set_cons_zero, List.set_cons_succ])
      refine wpAnyJ_take0 (i := 7) (v := ?_) rfl (by kernel_rfl) (by kernel_rfl) (by kernel_rfl) (fun _ _ _ h => h) (Or.inl ⟨by rfl, ?_⟩) ?_
      rotate_left
      focus ((intro w hSw; clear hSw; go_simp); try with_reducible rfl)
      (try simp only [Act.put, List.getElem_toArray, List.getElem_cons_zero, List.getElem_cons_succ, List.setIfInBounds_toArray, List.set_cons_zero, List.set_cons_succ])
      refine wpAnyJ_take0 (i := 8) (v := ?_) rfl (by kernel_rfl) (by kernel_rfl) (by kernel_rfl) (fun _ _ _ h => h) (Or.inl ⟨by rfl, ?_⟩) ?_
      rotate_left
      focus ((intro w hSw; clear hSw; go_simp); try with_reducible rfl)
      (try simp only [Act.put, List.getElem_toArray, List.getElem_cons_zero, List.getElem_cons_succ, List.setIfInBounds_toArray, List.set_cons_zero, List.set_cons_succ])
      refine wpAnyJ_take0 (i := 9) (v := ?_) rfl (by kernel_rfl) (by kernel_rfl) (by kernel_rfl) (fun _ _ _ h => h) (Or.inl ⟨by rfl, ?_⟩) ?_
      rotate_left
      focus ((intro w hSw; clear hSw; go_simp); try with_reducible rfl)
      (try simp only [Act.put, List.getElem_toArray, List.getElem_cons_zero, List.getElem_cons_succ, List.setIfInBounds_toArray, List.set_cons_zero, List.set_cons_succ])
      refine wpAnyJ_ready (rs := [10]) (by kernel_rfl) (by simp) ?_
      refine AllReadyJ.cons rfl (fun KK hKK => ?_) AllReadyJ.nil
      refine step_append_grows (by rfl) _ _ 23 (by rfl) 40 iS _ 6 88 Try.underlying23 siS szS s1S s2S rfl (by decide) (some ⟨b, off, none⟩) p p (cl.take (p * 6)) (by rfl) (fun e => by cases e) (by rw [List.length_take, HCl.out]; omega) ?holds ((⟨b, off, none⟩ : Addr).add ((p + 1) * 6)) (g.edges.length - (p + 1)) (ec - (p + 1)) (cl.drop ((p + 1) * 6)) (by rfl) (by rw [List.length_drop, HCl.out, ← Nat.sub_mul]) ?hc (fun u hu => HFL.out.one u (List.mem_of_mem_drop hu)) (by omega) (by unfold maxLen; omega) (by omega) ?_
      case holds =>
        intro bb hb j u hu
        injection hb with hb
        subst hb
        rw [addr_add, HCD.out _]
        refine HCE.out j u ?_
        rw [List.getElem?_take] at hu
        split at hu
        · exact hu
        · cases hu
      case hc =>
        intro j u hu
        rw [List.getElem?_drop] at hu
        rw [Addr.add_lit, Addr.add_lit, HCD.out _, Nat.add_assoc]
        exact HCE.out _ u hu
      intro v' w4 hown hgrow
      have HBX4 : Hid (Bx w [([.slice na g.nodes.length nc, .slice (some ⟨b, off, none⟩) g.edges.length ec], 25), ([.slice none 0 0, .slice none 0 0], 25)] w4) := Lib.hid (HBD.out.below ((Below.refl _ _).grown hgrow (Nat.le_refl _) (fun k e => by cases e)))
      have hH2 : (fun u : World => u.cell? ⟨w.heap.size, 1, none⟩ = some (.slice (some ⟨b, off, none⟩) g.edges.length ec)) w4 := HBX4.out.cell 0 1 rfl rfl
      have HOW := Lib.hid hown
      have HGR := Lib.hid hgrow
      obtain ⟨a3, c3, rfl, -, -⟩ := own_cells hown
      refine hKK.out _ _ (fun _ _ => hH2) ?_
      clear hKK KK hHeld hown hgrow
      have hHeld := hH2
      clear hH2
      (try simp only [Act.put, List.getElem_toArray, List.getElem_cons_zero, List.getElem_cons_succ, List.setIfInBounds_toArray, List.set_cons_zero, List.set_cons_succ])
      refine wpAnyJ_take0 (i := 11) (v := ?_) rfl (by kernel_rfl) (by kernel_rfl) (by kernel_rfl) (fun _ _ _ h => h) (Or.inl ⟨by rfl, ?_⟩) ?_
      rotate_left
      focus ((intro w hSw; clear hSw; go_simp); try with_reducible rfl)
      (try simp only [Act.put, List.getElem_toArray, List.getElem_cons_zero, List.getElem_cons_succ, List.setIfInBounds_toArray, List.set_cons_zero, List.set_cons_succ])
      refine wpAnyJ_ready (rs := [12]) (by kernel_rfl) (by simp) ?_
      refine AllReadyJ.cons rfl (fun KK hKK => ?_) AllReadyJ.nil
      have y0 : w4.cell? ⟨w.heap.size, 1, none⟩ = some (.slice (some ⟨b, off, none⟩) g.edges.length ec) := HBX4.out.cell 0 1 rfl rfl
      have y1 : w4.frozen? ⟨w.heap.size, 1, none⟩ = false := HBX4.out.free 0 1 rfl
      go_simp
      clear y0 y1
      refine hKK.out _ _ (fun h => absurd h (by decide)) ?_
      clear hKK KK hHeld
      (try simp only [Act.put, List.getElem_toArray, List.getElem_cons_zero, List.getElem_cons_succ, List.setIfInBounds_toArray, List.set_cons_zero, List.set_cons_succ])
      refine wpAnyJ_done (by kernel_rfl) ?_ _
      refine NoPanic.normal ?_
      clear g1 g2 g2' g3 g4 g5 g6
      obtain ⟨w5, hw5⟩ : ∃ w5, w4.setCell ⟨w.heap.size, 1, none⟩ (.slice a3 (p + (g.edges.length - (p + 1))) c3) = w5 := ⟨_, rfl⟩
      have hln : (p + (g.edges.length - (p + 1))) = (L9).length := by rw [← HL9.out]; simp; omega
      have HBX5 : Hid (Bx w [([.slice na g.nodes.length nc, .slice a3 (p + (g.edges.length - (p + 1))) c3], 25), ([.slice none 0 0, .slice none 0 0], 25)] w5) := Lib.hid (by rw [← hw5]; exact HBX4.out.put 0 1 rfl _)
      have hbw : Below w.heap.size w1 w5 := by rw [← hw5]; exact ((HDB.out.grown HGR.out (by rw [HDS.out]; exact HBX1.out.bel.size) (fun k e => by cases e))).setCell (Nat.le_refl _) _
      have hrw : SlOk a3 (L9).length c3 ∧ RowR (IsE w5.heap.size w5) 6 w5.heap.size w5 a3 (L9) := by
        have hF3 : FlatR (IsE B w1) 6 (cl.take (p * 6) ++ cl.drop ((p + 1) * 6)) (L9) := by rw [← HL9.out]; exact (HFL.out.take p (by omega)).append (HFL.out.drop (p + 1))
        have ho : w5.ownsRow w0.heap.size 40 6 (.slice a3 (p + (g.edges.length - (p + 1))) c3) (p + (g.edges.length - (p + 1))) (cl.take (p * 6) ++ cl.drop ((p + 1) * 6)) := by rw [← hw5]; exact own_frame HOW.out fun q hq _ => Below.heap_setCell _ _ _ _ (by have := HBD.out.len; simp at this; show q ≠ w.heap.size; omega)
        obtain ⟨a', c', e, h1, h2⟩ := own_cells ho
        injection e with e1 e2 e3
        subst e1 e3
        rw [← hln]
        exact ⟨h1, (hF3.mono (fun cs x h => (h.below hbw hB).mono (Nat.le_trans hB HBX5.out.bel.size))).row (by decide) h2⟩
      have hg5 : IsG w5.heap.size w5 [.slice na g.nodes.length nc, .slice a3 (p + (g.edges.length - (p + 1))) c3] ⟨g.nodes, L9⟩ := ⟨na, nc, a3, c3, (congrArg (fun z : Nat => ([.slice na g.nodes.length nc, .slice a3 z c3] : List Value)) hln : _), HNZ.out, hrw.1, (HNS.out.below HBX5.out.bel hB (fun _ _ h => h.below HBX5.out.bel hB)).mono (Nat.le_trans hB HBX5.out.bel.size) (fun _ _ h => h.mono (Nat.le_trans hB HBX5.out.bel.size)), hrw.2⟩
      have HCO := Lib.hid (copyG_any _ _ _ w5 hg5 (Nat.le_refl _) HSM2.out)
      have HW5 := Lib.hid hw5
      have f0_0 : w5.cell? ⟨w.heap.size, 0, none⟩ = some (.slice na g.nodes.length nc) := HBX5.out.cell 0 0 rfl rfl
      have f0_1 : w5.cell? ⟨w.heap.size, 1, none⟩ = some (.slice a3 (p + (g.edges.length - (p + 1))) c3) := HBX5.out.cell 0 1 rfl rfl
      rw [← hw5] at f0_0 f0_1
      clear hw5 hrw hg5 hbw hln
      go_wp2_with fail
      rw [HW5.out]
      refine HCO.out.mono ?_
      rintro e w6 ⟨cs5, bs5, rfl, hb5, hG5, nd5, rg5⟩
      clear f0_0 f0_1
      have hG6 := hG5
      obtain ⟨na5, nc5, ea5, ec5, b51, b52, rfl, -⟩ := hG6
      have HBX6 := Lib.hid (HBX5.out.below hb5)
      have HE5 := Lib.hid (show _ ∧ _ ∧ _ ∧ _ from ⟨hb5, hG5, nd5, rg5⟩)
      clear hb5 hG5 nd5 rg5
      have f1_0 : w6.cell? ⟨w.heap.size + 1, 0, none⟩ = some (.slice none 0 0) := HBX6.out.cell 1 0 rfl rfl
      have f1_1 : w6.cell? ⟨w.heap.size + 1, 1, none⟩ = some (.slice none 0 0) := HBX6.out.cell 1 1 rfl rfl
      have z1_0 : w6.frozen? ⟨w.heap.size + 1, 0, none⟩ = false := HBX6.out.free 1 0 rfl
      have z1_1 : w6.frozen? ⟨w.heap.size + 1, 1, none⟩ = false := HBX6.out.free 1 1 rfl
      obtain ⟨q0, q1⟩ := two_cells (HBX6.out.blk 1 _ _ rfl) (.slice na5 g.nodes.length nc5) (.slice ea5 (L9).length ec5)
      have hbf : Hid (Below w.heap.size w ((w6.setCell ⟨w.heap.size + 1, 0, none⟩ (.slice na5 g.nodes.length nc5)).setCell ⟨w.heap.size + 1, 1, none⟩ (.slice ea5 (L9).length ec5))) := Lib.hid (((HBX6.out.put 1 0 rfl (.slice na5 g.nodes.length nc5)).put 1 1 rfl (.slice ea5 (L9).length ec5)).bel)
      go_wp2_with fail
      refine bodyPost_ret (by simp [results, Try.results22, go_sem, q0, q1]; rfl) rfl ?_
      obtain ⟨hb5, hG5, nd5, rg5⟩ := HE5.out
      have hl4 := HBX5.out.len
      simp only [List.length_cons, List.length_nil] at hl4
      rw [HP.out]
      refine ⟨_, bs5, rfl, hbf.out, hG5.same fun q hq => ?_, nd5, fun q hq => ?_⟩
      · have h9 := rg5 q hq; rw [Below.heap_setCell _ _ _ _ (by show q ≠ w.heap.size + 1; omega), Below.heap_setCell _ _ _ _ (by show q ≠ w.heap.size + 1; omega)]
      · have h9 := rg5 q hq; simp [World.setCell]; omega
end Go.Proofs.Ytoakloicjlfaaaa

/- The contracts of num.Text and of the reference's Text. Written by gentext.py out of the num seat's texts. Conditions: the argument is a number of 64 bits. -/
namespace Go.Proofs.Ytoakloicjlfaaaa
open Go.RowKit
set_option linter.unusedSimpArgs false
set_option linter.unusedVariables false
set_option maxRecDepth 100000

def In64 (n : Int) : Prop := -9223372036854775808 ≤ n ∧ n ≤ 9223372036854775807
theorem In64.of_wf {n : Int} (h : (Lit.int .i64 n).wf = true) : In64 n := by
  simpa [Lit.wf, IntKind.min, IntKind.max, IntKind.signed, IntKind.bits, In64] using h
theorem ret_u64 {a b : Int} (h : a = b) : Ending.returned (.int .u64 a) = .returned (.int .u64 b) := by rw [h]
theorem size_any (a : Int) (w : World) (ha : In64 a) : Calls Try.prog 65 #[.int .i64 a] w fun e w' => e = .returned (.int .u64 (a.natAbs : Int)) ∧ w = w' := by
  by_cases h1 : a < 0
  all_goals
    go_enter Try.func65, Try.ntmps65
    go_wp2
    go_ret
    refine ⟨ret_u64 ?_, rfl⟩
    unfold In64 at ha
    simp only [IntKind.wrap_u64]
    omega
theorem natAbs_le {a : Int} (ha : In64 a) : (a.natAbs : Int) ≤ 9223372036854775808 := by unfold In64 at ha; omega



/-- A digit's byte. -/
def digB (d : Nat) : UInt8 := UInt8.ofNat (48 + d)
/-- The digits of m, with fuel, ahead of acc. -/
def decF : Nat → Nat → List UInt8 → List UInt8
  | 0, _, acc => acc
  | f + 1, m, acc => if m < 10 then digB m :: acc else decF f (m / 10) (digB (m % 10) :: acc)
/-- The decimal digits of m, below 10^19. -/
def decN (m : Nat) : List UInt8 := decF 19 m []
def textOf (n : Int) : List UInt8 := (if n < 0 then [45] else []) ++ decN n.natAbs

def bytesV (l : List UInt8) : List Value := l.map fun b => .int .u8 b.toNat

def digitsV : List Value := [.int .u8 48, .int .u8 49, .int .u8 50, .int .u8 51, .int .u8 52, .int .u8 53, .int .u8 54, .int .u8 55, .int .u8 56, .int .u8 57]
theorem digitsV_get {d : Nat} (h : d < 10) : digitsV[d]? = some (.int .u8 (digB d).toNat) := by
  have : d = 0 ∨ d = 1 ∨ d = 2 ∨ d = 3 ∨ d = 4 ∨ d = 5 ∨ d = 6 ∨ d = 7 ∨ d = 8 ∨ d = 9 := by omega
  rcases this with rfl | rfl | rfl | rfl | rfl | rfl | rfl | rfl | rfl | rfl <;> rfl
theorem digB_nat {d : Nat} (h : d < 10) : ((digB d).toNat : Int) = 48 + d := by
  unfold digB; simp; omega
def bufV (f : Nat) (L : List UInt8) : List Value := List.replicate f (.int .u8 0) ++ bytesV L
theorem bufV_get (f : Nat) (L : List UInt8) : (bufV (f + 1) L)[f]? = some (.int .u8 0) := by
  unfold bufV; rw [List.getElem?_append_left (by simp)]; simp
theorem bufV_set (f : Nat) (L : List UInt8) (b : UInt8) : (bufV (f + 1) L).set f (.int .u8 b.toNat) = bufV f (b :: L) := by
  unfold bufV
  rw [List.set_append_left _ _ (by simp), List.replicate_succ', List.set_append_right _ _ (by simp)]
  simp [bytesV]

theorem slice20 (b f : Nat) (hf : f ≤ 19) (w : World) : (Instr.sliceAt 93 (.pointer (some ⟨b, 0, none⟩)) (some (.int .i64 (f : Int))) none none).run Try.prog w = .ok (.slice (some ⟨b, f, none⟩) (20 - f) (20 - f)) w := by
  have hl : Try.prog.arrayLen 93 = 20 := by kernel_rfl
  have he : Try.prog.elem 93 = 5 := by kernel_rfl
  have hu : Try.prog.underlying 93 = some (.array (Try.prog.arrayLen 93) (Try.prog.elem 93)) := by rw [hl, he]; exact Try.underlying93
  have hz : ∀ w, (sizeOf 5).run Try.prog w = .ok 1 w := fun _ => by kernel_rfl
  rw [run_sliceAt_array_l w 93 ⟨b, 0, none⟩ hu .i64 f (by omega) (by rw [hl]; omega), he, hz, hl]
  simp only [Result.andThen, slicedAt, Int.toNat_natCast]
  rw [if_neg (by omega)]
  simp [addr_add]
theorem conv20 (b f : Nat) (L : List UInt8) (hL : L.length = 20 - f) (w : World) (h : Block w b (bufV f L) 93) : (convert 62 9 (.slice (some ⟨b, f, none⟩) (20 - f) (20 - f))).run Try.prog w = .ok (.string ⟨L.toArray⟩) w := by
  have hc := run_convert_bytes_back w 62 9 5 ⟨b, f, none⟩ (20 - f) L Try.underlying62 Try.underlying5 Try.underlying9 (fun j hj => by
    rw [addr_add]
    refine h.cell ?_
    unfold bufV bytesV
    rw [List.getElem?_append_right (by simp)]
    simp [List.getElem?_eq_getElem hj])
  rw [hL] at hc
  exact hc

set_option maxHeartbeats 400000 in
theorem text_any (n : Int) (w : World) (hn : In64 n) : Calls Try.prog 36 #[.int .i64 n] w fun e w' => e = .returned (.string ⟨(textOf n).toArray⟩) ∧ Below w.heap.size w w' := by
  have HN : Hid (n.natAbs < 10 ^ 19) := Lib.hid (by have := natAbs_le hn; omega)
  have HS := Lib.hid (fun w => size_any n w hn)
  clear hn
  go_enter Try.func36, Try.ntmps36
  go_wp2_with fail
  refine (HS.out _).mono ?_; rintro e w' ⟨rfl, rfl⟩
  go_wp2_with fail
  go_loopw [5, 6] (fun i m wr => ∃ (f mm : Nat) (L : List UInt8), i = .int .i64 ((f : Int) + 1) ∧ m = .int .u64 mm ∧ 1 ≤ f ∧ f ≤ 19 ∧ Hid (mm < 10 ^ f ∧ decF f mm L = decN n.natAbs ∧ L.length = 19 - f) ∧
      Block wr w.heap.size digitsV 92 ∧ Block wr (w.heap.size + 1) (bufV (f + 1) L) 93 ∧ Below w.heap.size w wr) (fun i _ _ => (intOf i).toNat)
  case atStart =>
    refine ⟨19, _, [], rfl, rfl, by omega, by omega, Lib.hid ⟨HN.out, rfl, rfl⟩, ?_, ?_, ((Below.refl _ _).alloc (Nat.le_refl _) _).alloc (by simp) _⟩
    · exact (Block.new w digitsV 92).alloc _
    · have h := Block.new (w.alloc (.cells digitsV.toArray 92)) (bufV 20 []) 93
      simp only [World.size_alloc] at h
      exact h
  case round =>
    obtain ⟨f, mm, L, rfl, rfl, hf1, hf2, hh, hb0, hb1, hbel⟩ := hrel
    have c0 := hb0.cell (digitsV_get (d := mm % 10) (by omega))
    have c1 := hb1.cell (bufV_get f L)
    have f1 := hb1.free f
    have hsz := hb1.lt
    have hb2 := hb1.set f (.int .u8 (digB (mm % 10)).toNat)
    rw [bufV_set] at hb2
    have hbel2 : Below w.heap.size w (wr.setCell ⟨w.heap.size + 1, f, none⟩ (.int .u8 (digB (mm % 10)).toNat)) := hbel.setCell (by simp) _
    by_cases hlt : mm < 10
    · have hdl : decN n.natAbs = digB (mm % 10) :: L := by
        rw [← hh.out.2.1, show f = (f - 1) + 1 from by omega, decF, if_pos hlt, Nat.mod_eq_of_lt hlt]
      have hll : (digB (mm % 10) :: L).length = 20 - f := by simp only [List.length_cons]; have := hh.out.2.2; omega
      by_cases hneg : n < 0
      · obtain ⟨g, rfl⟩ : ∃ g, f = g + 1 := ⟨f - 1, by omega⟩
        have hb3 := hb2.set g (.int .u8 45)
        have c3 := hb2.cell (bufV_get g (digB (mm % 10) :: L))
        have f3 := hb2.free g
        rw [show (bufV (g + 1) (digB (mm % 10) :: L)).set g (.int .u8 45) = bufV g (45 :: digB (mm % 10) :: L) from bufV_set g _ 45] at hb3
        have hs := slice20 (w.heap.size + 1) g (by omega)
        have hcv := conv20 (w.heap.size + 1) g _ (by simp only [List.length_cons] at hll ⊢; omega) _ hb3
        have hbel3 := Lib.hid (Below.setCell hbel2 (p := ⟨w.heap.size + 1, g, none⟩) (by simp) (.int .u8 45))
        have HD := Lib.hid hdl
        clear hb0 hb1 hb2 hb3 hdl hll hbel2
        go_wp2_with fail
        go_ret
        refine ⟨?_, hbel3.out⟩
        unfold textOf
        rw [if_pos hneg, HD.out]; rfl
      · have hs := slice20 (w.heap.size + 1) f hf2
        have hcv := conv20 (w.heap.size + 1) f _ hll _ hb2
        have HBel := Lib.hid hbel2
        have HD := Lib.hid hdl
        clear hb0 hb1 hb2 hdl hll hbel2
        go_wp2_with fail
        go_ret
        refine ⟨?_, HBel.out⟩
        unfold textOf
        rw [if_neg (by omega), HD.out]; rfl
    · have hw : IntKind.u64.wrap ((mm : Int) / 10) = ((mm / 10 : Nat) : Int) := by
        have h1 := hh.out.1
        have h2 : 10 ^ f ≤ 10 ^ 19 := Nat.pow_le_pow_right (by omega) hf2
        rw [IntKind.wrap_u64]; omega
      have HB0 := Lib.hid hb0
      have HB2 := Lib.hid hb2
      have HBel := Lib.hid hbel2
      clear hb0 hb1 hb2 hbel2
      go_wp2_with fail
      go_roundw
      case rel =>
        have hh := hh.out
        have hf3 : 2 ≤ f := by
          rcases Nat.lt_or_ge 1 f with h | h
          · exact h
          · have : f = 1 := by omega
            rw [this] at hh; omega
        refine ⟨f - 1, mm / 10, digB (mm % 10) :: L, ?_, rfl, by omega, by omega, Lib.hid ⟨?_, ?_, ?_⟩, ?_, ?_, HBel.out⟩
        · simp; omega
        · have h1 : 10 ^ f = 10 ^ (f - 1) * 10 := by rw [← Nat.pow_succ]; congr 1; omega
          omega
        · rw [← hh.2.1]
          conv => rhs; rw [show f = (f - 1) + 1 from by omega, decF, if_neg hlt]
        · simp only [List.length_cons]; omega
        · exact HB0.out.set_other (by simp) _
        · rw [show f - 1 + 1 = f from by omega]; exact HB2.out
      case measure => first | (simp [intOf]; done) | (simp [intOf]; omega)



theorem decF_acc (f : Nat) : ∀ (m : Nat) (acc : List UInt8), m < 10 ^ f → decF f m acc = decF f m [] ++ acc := by
  induction f with
  | zero => intro m acc h; simp [decF]
  | succ f ih =>
    intro m acc h
    unfold decF
    split
    · rfl
    · have hm : m / 10 < 10 ^ f := by rw [Nat.pow_succ] at h; omega
      rw [ih _ (digB (m % 10) :: acc) hm, ih _ [digB (m % 10)] hm, List.append_assoc]; rfl
theorem decF_fuel (f : Nat) : ∀ (g m : Nat) (acc : List UInt8), f ≤ g → 1 ≤ f → m < 10 ^ f → decF g m acc = decF f m acc := by
  induction f with
  | zero => intro g m acc _ h; omega
  | succ f ih =>
    intro g m acc hg _ h
    obtain ⟨g, rfl⟩ : ∃ g', g = g' + 1 := ⟨g - 1, by omega⟩
    unfold decF
    split
    · rfl
    · have hm : m / 10 < 10 ^ f := by rw [Nat.pow_succ] at h; omega
      rcases Nat.eq_zero_or_pos f with h0 | h0
      · subst h0; simp at hm; omega
      · exact ih g _ _ (by omega) h0 hm
theorem decF_len (f : Nat) : ∀ (m : Nat) (acc : List UInt8), (decF f m acc).length ≤ f + acc.length := by
  induction f with
  | zero => intro m acc; simp [decF]
  | succ f ih =>
    intro m acc
    unfold decF
    split
    · simp; omega
    · have := ih (m / 10) (digB (m % 10) :: acc); simp at this; omega
theorem decN_len (m : Nat) : (decN m).length ≤ 19 := decF_len 19 m []
theorem decN_small {m : Nat} (h : m < 10) : decN m = [digB m] := by unfold decN decF; rw [if_pos h]
theorem decN_step {m : Nat} (h : ¬ m < 10) (hm : m < 10 ^ 19) : decN m = decN (m / 10) ++ [digB (m % 10)] := by
  have h1 : m / 10 < 10 ^ 18 := by omega
  unfold decN
  rw [show (19 : Nat) = 18 + 1 from rfl, decF, if_neg h, decF_acc 18 _ _ h1, decF_fuel 18 (18 + 1) _ _ (by omega) (by omega) h1]

theorem convOne (w : World) (b : UInt8) : (convert 62 9 (.slice (some ⟨w.heap.size, 0, none⟩) 1 1)).run Try.prog (w.alloc (.cells #[.int .u8 b.toNat] 5)) = .ok (.string ⟨#[b]⟩) (w.alloc (.cells #[.int .u8 b.toNat] 5)) := by
  have h := Block.new w [.int .u8 b.toNat] 5
  have hc := run_convert_bytes_back (P := Try.prog) (w.alloc (.cells #[.int .u8 b.toNat] 5)) 62 9 5 ⟨w.heap.size, 0, none⟩ 1 [b] Try.underlying62 Try.underlying5 Try.underlying9 (fun j hj => by
    rw [addr_add]
    have : j = 0 := by simpa using hj
    subst this
    exact h.cell rfl)
  exact hc

theorem str_ret {a b : ByteArray} (h : a = b) : Ending.returned (.string a) = .returned (.string b) := by rw [h]
theorem ba_append (a b : List UInt8) : (⟨a.toArray⟩ : ByteArray) ++ (⟨b.toArray⟩ : ByteArray) = ⟨(a ++ b).toArray⟩ := by
  apply ByteArray.ext; simp

def isDig (c : UInt8) : Bool := 48 ≤ c.toNat && c.toNat ≤ 57
def valOf (l : List UInt8) : Nat := l.foldl (fun v c => v * 10 + (c.toNat - 48)) 0
theorem valOf_snoc (l : List UInt8) (c : UInt8) : valOf (l ++ [c]) = valOf l * 10 + (c.toNat - 48) := by simp [valOf]
theorem isDig_iff (c : UInt8) {n : Int} (h : (c.toNat : Int) = n) : isDig c = true ↔ 48 ≤ n ∧ n ≤ 57 := by
  unfold isDig; simp only [Bool.and_eq_true, decide_eq_true_eq]; omega
theorem digB_isDig {d : Nat} (h : d < 10) : isDig (digB d) = true := (isDig_iff _ (digB_nat h)).2 (by omega)
theorem digB_val {d : Nat} (h : d < 10) : (digB d).toNat - 48 = d := by have := digB_nat h; omega
theorem decN_facts (f : Nat) : ∀ m, m < 10 ^ (f + 1) → f ≤ 18 → (decN m).all isDig = true ∧ valOf (decN m) = m ∧ ∃ c t, decN m = c :: t ∧ (c = 48 → m = 0 ∧ t = []) ∧ c ≠ 45 := by
  induction f with
  | zero =>
    intro m h _
    have hm : m < 10 := by simpa using h
    rw [decN_small hm]
    have hd := digB_nat hm
    refine ⟨by simp [digB_isDig hm], by simp [valOf, digB_val hm], _, _, rfl, fun hc => ?_, fun hc => ?_⟩
    · rw [hc] at hd
      have : ((48 : UInt8).toNat : Int) = 48 := rfl
      exact ⟨by omega, rfl⟩
    · rw [hc] at hd
      have : ((45 : UInt8).toNat : Int) = 45 := rfl
      omega
  | succ f ih =>
    intro m h hf
    by_cases hm : m < 10
    · exact (by
        rw [decN_small hm]
        have hd := digB_nat hm
        refine ⟨by simp [digB_isDig hm], by simp [valOf, digB_val hm], _, _, rfl, fun hc => ?_, fun hc => ?_⟩
        · rw [hc] at hd
          have : ((48 : UInt8).toNat : Int) = 48 := rfl
          exact ⟨by omega, rfl⟩
        · rw [hc] at hd
          have : ((45 : UInt8).toNat : Int) = 45 := rfl
          omega)
    · have h19 : m < 10 ^ 19 := Nat.lt_of_lt_of_le h (Nat.pow_le_pow_right (by omega) (by omega))
      obtain ⟨a, b, c, t, hc, hz, h45⟩ := ih (m / 10) (by rw [Nat.pow_succ] at h; omega) (by omega)
      rw [decN_step hm h19]
      refine ⟨by rw [List.all_append, a]; simp [digB_isDig (d := m % 10) (by omega)], by rw [valOf_snoc, b, digB_val (by omega)]; omega, c, t ++ [digB (m % 10)], by rw [hc]; rfl, fun h48 => ?_, h45⟩
      have := hz h48; omega
end Go.Proofs.Ytoakloicjlfaaaa

/- Layer 5: signs of Unicode in plain lists of bytes, and what the model's decoding says of them. Conditions: none. -/
namespace Go.Proofs.Ytoakloicjlfaaaa
open Go.RowKit

/-- Byte number k of a list, as a number; 0 behind its end. -/
def nb (l : List UInt8) (k : Nat) : Nat := ((l[k]?).map UInt8.toNat).getD 0
theorem nb_lt (l : List UInt8) (k : Nat) : nb l k < 256 := by
  unfold nb
  cases l[k]? with
  | none => simp
  | some c => simpa using c.toNat_lt
/-- A byte that goes on with a sign. -/
def tl (l : List UInt8) (k : Nat) : Bool := decide (k < l.length) && decide (128 ≤ nb l k) && decide (nb l k < 192)
/-- How many bytes the sign at a list's head has; 0: there is none. -/
def sg (l : List UInt8) : Nat :=
  if l.length = 0 then 0 else if nb l 0 < 128 then 1 else if nb l 0 < 194 ∨ 244 < nb l 0 ∨ tl l 1 = false then 0 else if nb l 0 < 224 then 2
  else if tl l 2 = false ∨ (nb l 0 = 224 ∧ nb l 1 < 160) ∨ (nb l 0 = 237 ∧ 160 ≤ nb l 1) then 0 else if nb l 0 < 240 then 3
  else if tl l 3 = false ∨ (nb l 0 = 240 ∧ nb l 1 < 144) ∨ (nb l 0 = 244 ∧ 144 ≤ nb l 1) then 0 else 4
/-- The rune of the sign at the head. -/
def rv (l : List UInt8) : Nat :=
  if sg l = 1 then nb l 0 else if sg l = 2 then (nb l 0 - 192) * 64 + (nb l 1 - 128) else if sg l = 3 then (nb l 0 - 224) * 4096 + (nb l 1 - 128) * 64 + (nb l 2 - 128)
  else if sg l = 4 then (nb l 0 - 240) * 262144 + (nb l 1 - 128) * 4096 + (nb l 2 - 128) * 64 + (nb l 3 - 128) else 65533

/-- The model's decoding, with its bytes as numbers. -/
def decU (n b0 b1 b2 b3 : Nat) : Nat × Nat :=
  if b0 < 128 then (b0, 1)
  else if b0 / 32 = 6 ∧ 1 < n ∧ b1 / 64 = 2 then (if 128 ≤ b0 % 32 * 64 + b1 % 64 then (b0 % 32 * 64 + b1 % 64, 2) else (65533, 1))
  else if b0 / 16 = 14 ∧ (1 < n ∧ b1 / 64 = 2) ∧ 2 < n ∧ b2 / 64 = 2 then
    (if 2048 ≤ b0 % 16 * 4096 + b1 % 64 * 64 + b2 % 64 ∧ (b0 % 16 * 4096 + b1 % 64 * 64 + b2 % 64 < 55296 ∨ (57344 ≤ b0 % 16 * 4096 + b1 % 64 * 64 + b2 % 64 ∧ b0 % 16 * 4096 + b1 % 64 * 64 + b2 % 64 ≤ 1114111)) then (b0 % 16 * 4096 + b1 % 64 * 64 + b2 % 64, 3) else (65533, 1))
  else if b0 / 8 = 30 ∧ (1 < n ∧ b1 / 64 = 2) ∧ (2 < n ∧ b2 / 64 = 2) ∧ 3 < n ∧ b3 / 64 = 2 then
    (if 65536 ≤ b0 % 8 * 262144 + b1 % 64 * 4096 + b2 % 64 * 64 + b3 % 64 ∧ (b0 % 8 * 262144 + b1 % 64 * 4096 + b2 % 64 * 64 + b3 % 64 < 55296 ∨ (57344 ≤ b0 % 8 * 262144 + b1 % 64 * 4096 + b2 % 64 * 64 + b3 % 64 ∧ b0 % 8 * 262144 + b1 % 64 * 4096 + b2 % 64 * 64 + b3 % 64 ≤ 1114111))
      then (b0 % 8 * 262144 + b1 % 64 * 4096 + b2 % 64 * 64 + b3 % 64, 4) else (65533, 1))
  else (65533, 1)

theorem get_nb (s : ByteArray) (pos k : Nat) (h : pos + k < s.size) : (s.get! (pos + k)).toNat = nb (s.data.toList.drop pos) k := by
  have h1 := get_at s (pos + k) h
  rw [Nat.add_zero] at h1
  rw [h1]
  unfold nb
  rw [List.getElem?_drop, List.getElem?_eq_getElem (by simpa using h)]
  rfl
theorem decode_eq (s : ByteArray) (pos : Nat) (h : pos < s.size) : Utf8.decode s pos = decU (s.size - pos) (nb (s.data.toList.drop pos) 0) (nb (s.data.toList.drop pos) 1) (nb (s.data.toList.drop pos) 2) (nb (s.data.toList.drop pos) 3) := by
  have g0 := get_nb s pos 0 (by omega)
  have c1 : ∀ k, (decide (pos + k < s.size) && ((s.get! (pos + k)).toNat / 64 == 2)) = true ↔ (k < s.size - pos ∧ nb (s.data.toList.drop pos) k / 64 = 2) := fun k => by
    by_cases hk : pos + k < s.size
    · rw [get_nb s pos k hk]; simp [hk]; omega
    · simp [hk]; omega
  simp only [Utf8.decode, Utf8.runeError, g0, Bool.and_eq_true, c1]
  have hv : ∀ c : Nat, (Utf8.valid (c : Int) = true) = (c < 55296 ∨ (57344 ≤ c ∧ c ≤ 1114111)) := fun c => by
    apply propext
    simp [Utf8.valid]
    omega
  simp only [beq_iff_eq, decide_eq_true_eq, hv, ge_iff_le]
  unfold decU
  by_cases a0 : nb (s.data.toList.drop pos) 0 < 128
  · rw [if_pos a0, if_pos a0]
  rw [if_neg a0, if_neg a0]
  by_cases a1 : nb (s.data.toList.drop pos) 0 / 32 = 6 ∧ 1 < s.size - pos ∧ nb (s.data.toList.drop pos) 1 / 64 = 2
  · rw [if_pos a1, if_pos a1, get_nb s pos 1 (by omega)]
  rw [if_neg a1, if_neg a1]
  by_cases a2 : nb (s.data.toList.drop pos) 0 / 16 = 14 ∧ (1 < s.size - pos ∧ nb (s.data.toList.drop pos) 1 / 64 = 2) ∧ 2 < s.size - pos ∧ nb (s.data.toList.drop pos) 2 / 64 = 2
  · rw [if_pos (by omega), if_pos a2, get_nb s pos 1 (by omega), get_nb s pos 2 (by omega)]
  rw [if_neg (by omega), if_neg a2]
  by_cases a3 : nb (s.data.toList.drop pos) 0 / 8 = 30 ∧ (1 < s.size - pos ∧ nb (s.data.toList.drop pos) 1 / 64 = 2) ∧ (2 < s.size - pos ∧ nb (s.data.toList.drop pos) 2 / 64 = 2) ∧ 3 < s.size - pos ∧ nb (s.data.toList.drop pos) 3 / 64 = 2
  · rw [if_pos (by omega), if_pos a3, get_nb s pos 1 (by omega), get_nb s pos 2 (by omega), get_nb s pos 3 (by omega)]
  rw [if_neg (by omega), if_neg a3]

theorem tl_true {l : List UInt8} {k : Nat} : tl l k = true ↔ k < l.length ∧ 128 ≤ nb l k ∧ nb l k < 192 := by simp [tl, and_assoc]
theorem tl_false {l : List UInt8} {k : Nat} : tl l k = false ↔ ¬ (k < l.length ∧ 128 ≤ nb l k ∧ nb l k < 192) := by
  rw [← tl_true]; simp

set_option maxHeartbeats 2000000 in
/-- What the decoding says, in these words. -/
theorem decU_spec {l : List UInt8} (h : l.length ≠ 0) : decU l.length (nb l 0) (nb l 1) (nb l 2) (nb l 3) = (rv l, if sg l = 0 then 1 else sg l) := by
  have h0 := nb_lt l 0
  have h1 := nb_lt l 1
  have h2 := nb_lt l 2
  have h3 := nb_lt l 3
  have hs : (sg l = 0 ∧ ¬ nb l 0 < 128 ∧ (nb l 0 < 194 ∨ 244 < nb l 0 ∨ ¬ (1 < l.length ∧ 128 ≤ nb l 1 ∧ nb l 1 < 192) ∨ (224 ≤ nb l 0 ∧ (¬ (2 < l.length ∧ 128 ≤ nb l 2 ∧ nb l 2 < 192) ∨ (nb l 0 = 224 ∧ nb l 1 < 160) ∨ (nb l 0 = 237 ∧ 160 ≤ nb l 1))) ∨ (240 ≤ nb l 0 ∧ (¬ (3 < l.length ∧ 128 ≤ nb l 3 ∧ nb l 3 < 192) ∨ (nb l 0 = 240 ∧ nb l 1 < 144) ∨ (nb l 0 = 244 ∧ 144 ≤ nb l 1))))) ∨
      (sg l = 1 ∧ nb l 0 < 128) ∨ (sg l = 2 ∧ 194 ≤ nb l 0 ∧ nb l 0 < 224 ∧ (1 < l.length ∧ 128 ≤ nb l 1 ∧ nb l 1 < 192)) ∨
      (sg l = 3 ∧ 224 ≤ nb l 0 ∧ nb l 0 < 240 ∧ (1 < l.length ∧ 128 ≤ nb l 1 ∧ nb l 1 < 192) ∧ (2 < l.length ∧ 128 ≤ nb l 2 ∧ nb l 2 < 192) ∧ ¬ (nb l 0 = 224 ∧ nb l 1 < 160) ∧ ¬ (nb l 0 = 237 ∧ 160 ≤ nb l 1)) ∨
      (sg l = 4 ∧ 240 ≤ nb l 0 ∧ nb l 0 ≤ 244 ∧ (1 < l.length ∧ 128 ≤ nb l 1 ∧ nb l 1 < 192) ∧ (2 < l.length ∧ 128 ≤ nb l 2 ∧ nb l 2 < 192) ∧ (3 < l.length ∧ 128 ≤ nb l 3 ∧ nb l 3 < 192) ∧ ¬ (nb l 0 = 240 ∧ nb l 1 < 144) ∧ ¬ (nb l 0 = 244 ∧ 144 ≤ nb l 1)) := by
    unfold sg
    simp only [tl_false]
    rw [if_neg h]
    generalize nb l 0 = b0 at *
    generalize nb l 1 = b1 at *
    generalize nb l 2 = b2 at *
    generalize nb l 3 = b3 at *
    generalize l.length = n at *
    clear h
    by_cases g0 : b0 < 128
    · rw [if_pos g0]; exact .inr (.inl ⟨rfl, g0⟩)
    rw [if_neg g0]
    by_cases g1 : b0 < 194 ∨ 244 < b0 ∨ ¬ (1 < n ∧ 128 ≤ b1 ∧ b1 < 192)
    · rw [if_pos g1]
      refine .inl ⟨rfl, g0, ?_⟩
      rcases g1 with g1 | g1 | g1
      · exact .inl g1
      · exact .inr (.inl g1)
      · exact .inr (.inr (.inl g1))
    rw [if_neg g1]
    have k1 : 194 ≤ b0 ∧ b0 ≤ 244 ∧ (1 < n ∧ 128 ≤ b1 ∧ b1 < 192) := ⟨by omega, by omega, Classical.byContradiction fun h => g1 (.inr (.inr h))⟩
    clear g1
    by_cases g2 : b0 < 224
    · rw [if_pos g2]; exact .inr (.inr (.inl ⟨rfl, k1.1, g2, k1.2.2⟩))
    rw [if_neg g2]
    by_cases g3 : ¬ (2 < n ∧ 128 ≤ b2 ∧ b2 < 192) ∨ (b0 = 224 ∧ b1 < 160) ∨ (b0 = 237 ∧ 160 ≤ b1)
    · rw [if_pos g3]; exact .inl ⟨rfl, g0, .inr (.inr (.inr (.inl ⟨by omega, g3⟩)))⟩
    rw [if_neg g3]
    have k3 : (2 < n ∧ 128 ≤ b2 ∧ b2 < 192) := Classical.byContradiction fun h => g3 (.inl h)
    have k4 : ¬ (b0 = 224 ∧ b1 < 160) := fun h => g3 (.inr (.inl h))
    have k5 : ¬ (b0 = 237 ∧ 160 ≤ b1) := fun h => g3 (.inr (.inr h))
    clear g3
    by_cases g4 : b0 < 240
    · rw [if_pos g4]; exact .inr (.inr (.inr (.inl ⟨rfl, by omega, g4, k1.2.2, k3, k4, k5⟩)))
    rw [if_neg g4]
    by_cases g5 : ¬ (3 < n ∧ 128 ≤ b3 ∧ b3 < 192) ∨ (b0 = 240 ∧ b1 < 144) ∨ (b0 = 244 ∧ 144 ≤ b1)
    · rw [if_pos g5]; exact .inl ⟨rfl, g0, .inr (.inr (.inr (.inr ⟨by omega, g5⟩)))⟩
    rw [if_neg g5]
    exact .inr (.inr (.inr (.inr ⟨rfl, by omega, k1.2.1, k1.2.2, k3, Classical.byContradiction fun h => g5 (.inl h), fun h => g5 (.inr (.inl h)), fun h => g5 (.inr (.inr h))⟩)))
  unfold rv
  generalize sg l = sgl at *
  generalize nb l 0 = b0 at *
  generalize nb l 1 = b1 at *
  generalize nb l 2 = b2 at *
  generalize nb l 3 = b3 at *
  generalize l.length = n at *
  clear h
  rcases hs with ⟨e, hs⟩ | ⟨e, hs⟩ | ⟨e, hs⟩ | ⟨e, hs⟩ | ⟨e, hs⟩
  · unfold decU
    subst e
    simp only [if_true]
    rw [if_neg (by omega)]
    split
    · rw [if_neg (by omega)]; rfl
    split
    · rw [if_neg (by omega)]; rfl
    split
    · rw [if_neg (by omega)]; rfl
    · rfl
  · unfold decU
    subst e
    rw [if_pos hs]
    simp
  · unfold decU
    subst e
    rw [if_neg (by omega), if_pos (by omega), if_pos (by omega)]
    simp; omega
  · unfold decU
    subst e
    rw [ if_neg (by omega), if_neg (by omega), if_pos (by omega), if_pos (by omega)]
    simp; omega
  · unfold decU
    subst e
    rw [ if_neg (by omega), if_neg (by omega), if_neg (by omega), if_pos (by omega), if_pos (by omega)]
    simp; omega
theorem decode_spec (s : ByteArray) (pos : Nat) (h : pos < s.size) : Utf8.decode s pos = (rv (s.data.toList.drop pos), if sg (s.data.toList.drop pos) = 0 then 1 else sg (s.data.toList.drop pos)) := by
  have hl : (s.data.toList.drop pos).length = s.size - pos := by simp
  rw [decode_eq s pos h, ← hl]
  exact decU_spec (by rw [hl]; omega)
end Go.Proofs.Ytoakloicjlfaaaa

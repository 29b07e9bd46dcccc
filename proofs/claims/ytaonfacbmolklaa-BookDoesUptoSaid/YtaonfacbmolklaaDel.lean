/- slices.DeleteFunc where the closure takes one place. Conditions: none. -/
import Derived.Test.YtaonfacbmolklaaForget
import Derived.Lib.SliceRun
namespace Go.Proofs.Ytaonfacbmolklaa
open Go.RowKit
set_option linter.unusedSimpArgs false
set_option linter.unusedVariables false

theorem idxV_one {n k : Nat} (h : k < n) : idxV (fun j => decide (j = k)) (List.range n) = (k : Int) :=
  idxV_at (List.getElem?_range h) (by simp) (fun i u hi hu => by
    have h1 := (List.getElem?_eq_some_iff.1 hu).1
    simp at h1
    rw [List.getElem?_range h1] at hu; cases hu; simp; omega)
theorem zeroPtr (w : World) : (zeroValue 53).run Try.prog w = .ok (.pointer none) w := by rfl
theorem grownBy_of {w w1 w2 : World} {g : Nat} (h : w.grownBy w1 (some g)) (hb : Below w1.heap.size w1 w2) : w.grownBy w2 (some g) :=
  ⟨hb.os.trans h.os, hb.tape.trans h.tape, hb.output.trans h.output, Nat.le_trans h.size hb.size, fun q hq hn => by
    rw [hb.block q (Nat.lt_of_lt_of_le hq h.size)]; exact h.block q hq hn⟩
theorem grownBy_set {w w1 : World} {g : Nat} (h : w.grownBy w1 (some g)) (o : Nat) (v : Value) : w.grownBy (w1.setCell ⟨g, o, none⟩ v) (some g) :=
  ⟨h.os, h.tape, h.output, by simpa [World.setCell] using h.size, fun q hq hn => by
    rw [Below.heap_setCell _ _ _ _ (fun e => hn (by rw [e])), h.block q hq hn]⟩
set_option maxRecDepth 100000 in
set_option maxHeartbeats 4000000 in
theorem delete_any (w : World) (B g c k bx : Nat) (vals : List Value) (hown : w.ownsRow B 53 1 (.slice (some ⟨g, 0, none⟩) vals.length c) vals.length vals) (hk : k < vals.length) (hn : vals.length ≤ 1000000) (hp : ∀ (j : Nat) v, vals[j]? = some v → ∃ p, v = .pointer (some ⟨p, 0, none⟩))
    (hf : ∀ (w' : World) (j : Nat) v, w.grownBy w' (some g) → vals[j]? = some v → Calls Try.prog 39 #[v, .pointer (some ⟨bx, 0, none⟩)] w' fun e w'' => e = .returned (.bool (decide (j = k))) ∧ Below w'.heap.size w' w'') :
    Calls Try.prog 38 #[.slice (some ⟨g, 0, none⟩) vals.length c, .func (.func 39) #[] #[.pointer (some ⟨bx, 0, none⟩)]] w fun e w' => e = .returned (.slice (some ⟨g, 0, none⟩) (vals.length - 1) c) ∧ w'.ownsRow B 53 1 (.slice (some ⟨g, 0, none⟩) (vals.length - 1) c) (vals.length - 1) (vals.eraseIdx k) ∧ w.grownBy w' (some g) := by
  have hcells : Cells w.heap.size w (some ⟨g, 0, none⟩) vals := own_cells_of hown
  have HI := Lib.hid (idx_drop vals (fun j => decide (j = k)) (some ⟨g, 0, none⟩) c bx w.heap.size w hcells (Nat.le_refl _) (by omega) (fun w' j v hb hv => hf w' j v ⟨hb.os, hb.tape, hb.output, hb.size, fun q hq _ => hb.block q hq⟩ hv))
  rw [idxV_one hk] at HI
  have hB := (hown.lt g rfl).1
  have HF := Lib.hid hf
  have HP := Lib.hid hp
  obtain ⟨n, hl⟩ : ∃ n, vals.length = n := ⟨_, rfl⟩
  obtain ⟨cur, hblk, hcl, hcap, htk⟩ : ∃ cur : List Value, Block w g cur 53 ∧ cur.length = c ∧ n ≤ c ∧ ∀ q, q < n → cur[q]? = vals[q]? := by
    obtain ⟨h1, h2⟩ := hown
    rcases h2 with ⟨h3, _⟩ | ⟨g', c', cur, h3, h4, h5, h6, h7, h8, h9⟩
    · cases h3
    · injection h3 with e1 e2 e3
      injection e1 with e1
      injection e1 with e1
      subst e1
      subst e3
      refine ⟨cur.toList, by unfold Block; simpa using h5, by simpa using h8, by omega, fun q hq => ?_⟩
      have h10 := congrArg (fun l => l[q]?) h9
      simp only [Nat.mul_one] at h10
      rwa [List.getElem?_take_of_lt (by omega)] at h10
  have hcm : c ≤ maxLen := by
    obtain ⟨h1, h2⟩ := hown
    rcases h2 with ⟨h3, _⟩ | ⟨g', c', cur, h3, h4, h5, h6, h7, h8, h9⟩
    · cases h3
    · injection h3 with e1 e2 e3
      subst e3
      exact h7
  rw [hl] at hk hn HI ⊢
  have HL := Lib.hid hl
  have HB := Lib.hid hB
  have HBK := Lib.hid hblk
  have HCL := Lib.hid hcl
  have HTK := Lib.hid htk
  clear hp hown hf hcells hl hblk hcl htk hB
  go_enter Try.func38, Try.ntmps38
  go_wp2_with fail
  refine HI.out.mono ?_
  rintro e w1 ⟨rfl, hb1⟩
  have HG1 : Hid (w.grownBy w1 (some g)) := Lib.hid ⟨hb1.os, hb1.tape, hb1.output, hb1.size, fun q hq _ => hb1.block q hq⟩
  have HB1 : Hid (Block w1 g cur 53) := Lib.hid (HBK.out.below hb1 HBK.out.lt)
  clear hb1
  have hk1 : ((k : Int) == -1) = false := beq_eq_false_iff_ne.2 (by omega)
  go_wp2_with fail
  go_loopw [5, 6] (fun iv jv wr => ∃ (m : Nat), jv = .int .i64 ((m : Int) + 1) ∧ iv = .int .i64 m ∧ k ≤ m ∧ m < n ∧ Hid (w.grownBy wr (some g)) ∧ Hid (∃ cur' : List Value, Block wr g cur' 53 ∧ cur'.length = c ∧ ∀ q, q < n → cur'[q]? = if k ≤ q ∧ q < m then vals[q + 1]? else vals[q]?)) (fun _ jv _ => n - (intOf jv).toNat)
  case atStart => exact ⟨k, rfl, rfl, Nat.le_refl _, hk, HG1, Lib.hid ⟨cur, HB1.out, HCL.out, fun q hq => by rw [if_neg (by omega)]; exact HTK.out q hq⟩⟩
  case round =>
    obtain ⟨m, rfl, rfl, hm1, hm2, HG, HC⟩ := hrel
    obtain ⟨cur1, hblk, hcl, hat⟩ := HC.out
    by_cases hlt : m + 1 < n
    · have hlt' : (m : Int) + 1 < n := by omega
      have hm0 : (0 : Int) ≤ (m : Int) := by omega
      have hcast : ((m : Int) + 1) = ((m + 1 : Nat) : Int) := by omega
      obtain ⟨v, hv⟩ : ∃ v, vals[m + 1]? = some v := get_some (by have := HL.out; omega)
      obtain ⟨p, rfl⟩ := HP.out _ v hv
      have x1 : wr.cell? ⟨g, m + 1, none⟩ = some (.pointer (some ⟨p, 0, none⟩)) := hblk.cell (by rw [hat _ hlt, if_neg (by omega)]; exact hv)
      have HI2 := Lib.hid (by have h := HF.out wr (m + 1) _ HG.out hv; rwa [decide_eq_false (by omega)] at h)
      obtain ⟨v0, hv0⟩ : ∃ v0, cur1[m]? = some v0 := get_some (by omega)
      have HV := Lib.hid hv
      have HAT := Lib.hid hat
      have HBL := Lib.hid hblk
      have HCL1 := Lib.hid hcl
      have HV0 := Lib.hid hv0
      have HCST := Lib.hid hcast
      clear hv hat hblk hcl hv0 HI hcast
      go_wp2_with fail
      refine HI2.out.mono ?_
      rintro e w2 ⟨rfl, hb2⟩
      have hB2 := HBL.out.below hb2 HBL.out.lt
      have y0 := hB2.cell HV0.out
      have f0 := hB2.free m
      have HB2 := Lib.hid hB2
      have HG2 := Lib.hid (grownBy_of HG.out hb2)
      clear hb2 hB2 x1
      go_wp2_with fail
      go_roundw
      case rel =>
        refine ⟨m + 1, by go_num, by go_num, by omega, by omega, Lib.hid (grownBy_set HG2.out _ _), Lib.hid ⟨cur1.set m _, HB2.out.set m _, by rw [List.length_set]; exact HCL1.out, fun q hq => ?_⟩⟩
        rw [List.getElem?_set]
        by_cases h1 : m = q
        · subst h1
          rw [if_pos rfl, if_pos (by have := HCL1.out; omega), if_pos (by omega), HV.out]
        · rw [if_neg h1, HAT.out q hq]
          by_cases h2 : k ≤ q ∧ q < m
          · rw [if_pos h2, if_pos (by omega)]
          · rw [if_neg h2, if_neg (by omega)]
      case measure => simp [intOf]; omega
    · have hlt' : ¬ (m : Int) + 1 < n := by omega
      have hmn : m + 1 = n := by omega
      have HAT := Lib.hid hat
      have HBL := Lib.hid hblk
      have HCL1 := Lib.hid hcl
      have hn1 : n - m = 1 := by omega
      have hcl2 : ∀ ty, (Builtin.clear_ #[49] ty #[.slice (some ⟨g, m, none⟩) 1 (c - m)]).run Try.prog wr = .ok (.tuple #[]) (wr.setCells g m [.pointer none]) := fun ty => by
        exact Lib.run_clear_slice wr 49 53 ty (.pointer none) Try.underlying49 (fun w => zeroPtr w) rfl rfl g m 1 (c - m) (by omega) (fun j hj => by
          obtain ⟨v0, hv0⟩ : ∃ v0, cur1[m + j]? = some v0 := get_some (by omega)
          rw [hblk.cell hv0]; rfl) (fun j _ => hblk.free _)
      have hnm : n - 1 = m := by omega
      have hm0 : (0 : Int) ≤ (m : Int) := by omega
      have hmc : m ≤ c := by omega
      have hmc2 : ¬ c = m := by omega
      clear hat hblk hcl HI
      have HNM := Lib.hid hnm
      clear hnm
      go_wp2_with fail
      go_ret
      rw [HNM.out]
      obtain ⟨c2, b2, l2, g2⟩ := Block.setCells [.pointer none] m wr cur1 HBL.out
      have hc2 : c2.length = c := by rw [l2, HCL1.out]
      refine ⟨by rfl, ?_, ?_⟩
      · have h2 := own_of_block (B := B) (n := m) (xs := vals.eraseIdx k) b2 HB.out (by omega) (by omega) (by
          apply List.ext_getElem?
          intro q
          rw [List.getElem?_eraseIdx]
          by_cases hq : q < m
          · rw [List.getElem?_take_of_lt hq, g2 q, if_neg (by omega), HAT.out q (by omega)]
            by_cases h1 : q < k
            · rw [if_neg (by omega), if_pos h1]
            · rw [if_pos (by omega), if_neg h1]
          · rw [List.getElem?_eq_none (by simp; omega)]
            split
            · rw [List.getElem?_eq_none (by have := HL.out; omega)]
            · rw [List.getElem?_eq_none (by have := HL.out; omega)]) (by rw [List.length_eraseIdx, if_pos (by rw [HL.out]; exact hk), HL.out]; omega)
        rwa [hc2] at h2
      · obtain ⟨s1, s2, s3⟩ := setCells_rest g [.pointer none] m wr
        exact ⟨s1.trans HG.out.os, s2.trans HG.out.tape, s3.trans HG.out.output, by rw [setCells_size]; exact HG.out.size, fun q hq hn => by rw [setCells_other _ _ _ _ _ (fun e => hn (by rw [e])), HG.out.block q hq hn]⟩
end Go.Proofs.Ytaonfacbmolklaa

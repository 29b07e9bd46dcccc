/- BookOrders. Conditions: the acts' rows are small. -/
import Derived.Test.YtaonfacbmolklaaAhd
import Derived.Test.YtaonfacbmolklaaNeeds
namespace Go.Proofs.Ytaonfacbmolklaa
open Go.RowKit
set_option linter.unusedSimpArgs false
set_option linter.unusedVariables false

theorem Try.infoBool : (Try.prog.info? 4).map (fun i => (i.zero, i.size, i.bytes)) = some (some (.bool false), 1, 1) := by kernel_rfl
theorem alone_play {W u : World} {P : Nat} {a0 : Option Addr} {cap0 : Nat} {os : List Op} (hrow : Cells W.heap.size W a0 (os.flatMap Op.cells)) (hok : ∀ o ∈ os, o.ok W) (hln : ∀ o ∈ os, o.l.length ≤ 1048576) (hnl : os.length ≤ 1048576) (hb : Below W.heap.size W u) (hB : BookAt u W.heap.size P ⟨[], 0⟩ (fun k => k = P)) (hP : W.heap.size ≤ P ∧ P < u.heap.size) :
    Calls Try.prog 23 #[.pointer (some ⟨P, 0, none⟩), .slice a0 os.length cap0] u fun e w' => ∃ a c, e = .returned (.slice a (playS os 120).done.length c) ∧ DoneAt w' a (playS os 120).done ∧ Below W.heap.size W w' := by
  refine (play_any W u P _ a0 cap0 os hrow hok hln hnl hb hB (fun k hk => by subst hk; exact hP)).mono ?_
  rintro e w' ⟨dv, ps, n, rfl, h⟩
  obtain ⟨a, c, rfl, hd⟩ := h.done_at
  exact ⟨a, c, rfl, hd, h.world hb⟩
theorem DoneAt.below {u w : World} {a : Option Addr} {done : List D} (h : DoneAt u a done) (hb : Below u.heap.size u w) : DoneAt w a done := by
  intro i d hd
  obtain ⟨b, off, a1, c1, a2, c2, h1, h2, h3, h4, h5, h6, h7, h8⟩ := h i d hd
  exact ⟨b, off, a1, c1, a2, c2, h1, by have := hb.size; omega, by rw [hb.cell h2]; exact h3, by rw [hb.cell h2]; exact h4, by rw [hb.cell h2]; exact h5, by rw [hb.cell h2]; exact h6, row_below h7 hb, row_below h8 hb⟩
/-- Who is left; nobody of those seen so far stands ahead of i. -/
def firstB (left : List Bool) (ds : List D) (i : Nat) (k : Nat) : Bool :=
  left.getD i false && (List.range k).all fun q => !left.getD q false || decide (q = i) || !(match ds[q]?, ds[i]? with | some c, some d => aheadD c d | _, _ => false)
theorem firstB_zero (left : List Bool) (ds : List D) (i : Nat) : firstB left ds i 0 = left.getD i false := by simp [firstB]
theorem firstB_succ (left : List Bool) (ds : List D) (i k : Nat) : firstB left ds i (k + 1) = (firstB left ds i k && (!left.getD k false || decide (k = i) || !(match ds[k]?, ds[i]? with | some c, some d => aheadD c d | _, _ => false))) := by
  unfold firstB
  rw [List.range_succ, List.all_append, ← Bool.and_assoc]
  simp
theorem firstB_false {left : List Bool} {ds : List D} {i k n : Nat} (h : firstB left ds i k = false) (hk : k ≤ n) : firstB left ds i n = false := by
  induction n with
  | zero => obtain rfl : k = 0 := by omega
            exact h
  | succ n ih =>
    by_cases e : k = n + 1
    · rw [← e]; exact h
    · rw [firstB_succ, ih (by omega)]; rfl
/-- One is always found. -/
theorem next_found {s : PS} (h : OI s) {left : List Bool} (hl : left.length = s.done.length) (hc : 0 < left.count true) : ∃ i, i < s.done.length ∧ firstB left s.done i s.done.length = true := by
  have hex : ∃ i, i < s.done.length ∧ left.getD i false = true := by
    obtain ⟨i, hi⟩ := List.mem_iff_getElem?.1 (List.count_pos_iff.1 hc)
    have := (List.getElem?_eq_some_iff.1 hi).1
    exact ⟨i, by omega, by rw [List.getD_eq_getElem?_getD, hi]; rfl⟩
  obtain ⟨i, d, hd, hp, hall⟩ := acyc h (fun i => left.getD i false) hex
  refine ⟨i, (List.getElem?_eq_some_iff.1 hd).1, ?_⟩
  unfold firstB
  rw [Bool.and_eq_true, List.all_eq_true]
  refine ⟨hp, fun q hq => ?_⟩
  have hq := List.mem_range.1 hq
  obtain ⟨c, hcq⟩ : ∃ c, s.done[q]? = some c := ⟨_, List.getElem?_eq_getElem hq⟩
  rw [hcq, hd]
  cases hlq : left.getD q false with
  | false => rfl
  | true =>
    by_cases hqi : q = i
    · simp [hqi]
    · simp only [hall q c hcq hlq hqi]
      simp
theorem count_set {l : List Bool} {i : Nat} (h : l.getD i false = true) : (l.set i false).count true + 1 = l.count true := by
  induction l generalizing i with
  | nil => simp at h
  | cons x xs ih =>
    cases i with
    | zero => 
      have hx : x = true := by simpa using h
      subst hx
      simp
    | succ i =>
      have := ih (i := i) (by simpa using h)
      simp only [List.set_cons_succ, List.count_cons]
      omega
def leftV (l : List Bool) : List Value := l.map Value.bool
theorem leftV_get {l : List Bool} {i : Nat} (h : i < l.length) : (leftV l)[i]? = some (.bool (l.getD i false)) := by
  unfold leftV
  rw [List.getElem?_map, List.getD_eq_getElem?_getD, List.getElem?_eq_getElem h]
  rfl
theorem leftV_set (l : List Bool) (i : Nat) (b : Bool) : (leftV l).set i (.bool b) = leftV (l.set i b) := by
  unfold leftV; rw [List.map_set]
set_option maxRecDepth 100000 in
set_option maxHeartbeats 16000000 in
theorem bookOrders_any (a0 : Option Addr) (cap0 : Nat) (os : List Op) (W : World) (hrow : Cells W.heap.size W a0 (os.flatMap Op.cells)) (hok : ∀ o ∈ os, o.ok W) (hsm : (os.map fun o => o.l.length + 1).sum ≤ 1048576) :
    Calls Try.prog 4 #[.slice a0 os.length cap0] W fun e w' => e = .returned (.bool true) ∧ Below W.heap.size W w' := by
  obtain ⟨hln, hnl⟩ := ops_ok hsm
  have HPL := Lib.hid (fun (P : Nat) (u : World) (hb : Below W.heap.size W u) (hB : BookAt u W.heap.size P ⟨[], 0⟩ (fun k => k = P)) (hP : W.heap.size ≤ P ∧ P < u.heap.size) => alone_play (cap0 := cap0) hrow hok hln hnl hb hB hP)
  have HOI := Lib.hid (OI.play os 120)
  have hdn := (playS_ok os hln).dn
  have HDL := Lib.hid (playS_ok os hln).dlim
  have HN1 := Lib.hid (new_any W W.heap.size (Nat.le_refl _))
  have HW := Lib.hid (fun u => works_any u)
  generalize hm : os.length = m at *
  generalize playS os 120 = s at *
  obtain ⟨n, hl⟩ : ∃ n, s.done.length = n := ⟨_, rfl⟩
  rw [hl] at hdn HPL
  have HL := Lib.hid hl
  clear hrow hok hsm hln hnl hm hl
  obtain ⟨iB, hiB, hzB, h1B, h2B⟩ := info_parts Try.infoBool
  obtain ⟨Z, hZ, hmk⟩ : ∃ Z : List Value, Z = leftV (List.replicate n false) ∧ ∀ w : World, (Instr.makeSlice 44 (.int .i64 (n : Int)) (.int .i64 (n : Int))).run Try.prog w = .ok (.slice (some ⟨w.heap.size, 0, none⟩) n n) (w.alloc (.cells Z.toArray 4)) := by
    refine ⟨_, rfl, fun w => ?_⟩
    have hr := run_make (P := Try.prog) w 44 4 iB _ Try.underlying44 hiB hzB .i64 .i64 n n (by omega) (Int.le_refl _) (by rw [h2B]; omega) (by omega)
    rw [h1B] at hr
    have hc : (madeCells (Value.bool false).cells (((n : Nat) : Int).toNat * 1)) = (leftV (List.replicate n false)).toArray := by
      apply Array.ext_getElem?
      intro k
      by_cases hk : k < n
      · simp [madeCells, Value.cells, leftV, hk, Nat.mod_one]
      · simp [madeCells, Value.cells, leftV, hk]
    rw [hc] at hr
    exact hr
  have HZ := Lib.hid hZ
  have HMK := Lib.hid hmk
  clear hZ hmk hiB hzB h1B h2B
  go_enter Try.func4, Try.ntmps4
  go_wp2_with fail
  refine HN1.out.mono ?_
  rintro e wA ⟨rfl, hb1, hz1, hba1⟩
  have HPL1 := Lib.hid (HPL.out W.heap.size wA hb1 hba1 ⟨Nat.le_refl _, by omega⟩)
  clear hb1 hz1 hba1 HPL HN1
  go_wp2_with fail
  refine HPL1.out.mono ?_
  rintro e wB ⟨da, dc, rfl, hda, hb2⟩
  have HDA := Lib.hid hda
  have HB2 := Lib.hid hb2
  clear hda hb2 HPL1
  have hmk := HMK.out
  go_wp2_with fail
  clear hmk HMK
  obtain ⟨lb, hlb⟩ : ∃ lb, wB.heap.size = lb := ⟨_, rfl⟩
  rw [hlb]
  have HLB := Lib.hid hlb
  have hb3 : Below wB.heap.size wB (wB.alloc (.cells Z.toArray 4)) := (Below.refl _ _).alloc (Nat.le_refl _) _
  have hX3 := Block.new wB Z 4
  rw [hlb] at hX3
  -- what stands all along: the deeds, and the row of those who are left
  have K3 : Hid (Below wB.heap.size wB (wB.alloc (.cells Z.toArray 4)) ∧ Block (wB.alloc (.cells Z.toArray 4)) lb (leftV (List.replicate n false)) 4) := Lib.hid ⟨hb3, by rw [HZ.out] at hX3 ⊢; exact hX3⟩
  obtain ⟨wC, hu3⟩ : ∃ u, wB.alloc (.cells Z.toArray 4) = u := ⟨_, rfl⟩
  rw [hu3] at K3
  rw [hu3]
  clear hb3 hX3 hu3 hlb HZ
  have hn0 : (0 : Int) ≤ (n : Int) := by omega
  go_loopw [6] (fun jv wr => ∃ (j : Nat) (l : List Bool), jv = .int .i64 j ∧ j ≤ n ∧ l.length = n ∧ Hid (∀ i, i < j → l.getD i false = true) ∧ Hid (Below wB.heap.size wB wr ∧ Block wr lb (leftV l) 4)) (fun jv _ => n - (intOf jv).toNat)
  case atStart => exact ⟨0, List.replicate n false, rfl, Nat.zero_le _, by simp, Lib.hid (fun i h => absurd h (Nat.not_lt_zero _)), K3⟩
  case round =>
    obtain ⟨j, l, rfl, hj, hll, HF, HT⟩ := hrel
    have hj0 : (0 : Int) ≤ (j : Int) := by omega
    by_cases hlt : j < n
    · have hlt' : (j : Int) < n := by omega
      have y1 := HT.out.2.cell (leftV_get (l := l) (i := j) (by omega))
      have f1 := HT.out.2.free j
      have HT2 : Hid (Below wB.heap.size wB (wr.setCell ⟨lb, j, none⟩ (.bool true)) ∧ Block (wr.setCell ⟨lb, j, none⟩ (.bool true)) lb (leftV (l.set j true)) 4) := Lib.hid ⟨HT.out.1.setCell (by have := HLB.out; show wB.heap.size ≤ lb; omega) _, by rw [← leftV_set]; exact HT.out.2.set j _⟩
      have HF2 : Hid (∀ i, i < j + 1 → (l.set j true).getD i false = true) := Lib.hid (fun i hi => by
        rw [List.getD_eq_getElem?_getD, List.getElem?_set]
        by_cases e : j = i
        · subst e; simp [hll, hlt]
        · rw [if_neg e, ← List.getD_eq_getElem?_getD]; exact HF.out i (by omega))
      go_wp2_with fail
      go_roundw
      case rel => exact ⟨j + 1, l.set j true, by go_num, by omega, by simpa using hll, HF2, HT2⟩
      case measure => simp [intOf]; omega
    · have hlt' : ¬ (j : Int) < n := by omega
      obtain rfl : j = n := by omega
      have HC : Hid (l.count true = j) := Lib.hid (by
        have h1 : ∀ b ∈ l, b = true := fun b hb => by
          obtain ⟨i, hi⟩ := List.mem_iff_getElem?.1 hb
          have hil := (List.getElem?_eq_some_iff.1 hi).1
          have := HF.out i (by omega)
          rw [List.getD_eq_getElem?_getD, hi] at this
          exact this
        rw [← hll]
        exact List.count_eq_length.2 (fun b hb => (h1 b hb).symm))
      go_wp2_with fail
      go_loopw [7] (fun jv wr => ∃ (c : Nat) (l : List Bool), jv = .int .i64 c ∧ c ≤ j ∧ l.length = j ∧ Hid (l.count true + c = j) ∧ Hid (Below wB.heap.size wB wr ∧ Block wr lb (leftV l) 4)) (fun jv _ => j - (intOf jv).toNat)
      case atStart => exact ⟨0, l, rfl, Nat.zero_le _, hll, Lib.hid (by have := HC.out; omega), HT⟩
      case round =>
        clear HF HT HC hll l
        obtain ⟨c, l, rfl, hc, hll, HC, HT⟩ := hrel
        have hc0 : (0 : Int) ≤ (c : Int) := by omega
        by_cases hcl : c < j
        · have hcl' : (c : Int) < j := by omega
          have HNX := Lib.hid (next_found HOI.out (left := l) (by rw [HL.out]; exact hll) (by have := HC.out; omega))
          go_wp2_with fail
          go_loopw [8, 9] (fun nv iv wr => ∃ (x : Int) (i : Nat), nv = .int .i64 x ∧ iv = .int .i64 i ∧ i ≤ j ∧ ((x = -1 ∧ Hid (∀ q, q < i → firstB l s.done q j = false)) ∨ (∃ q : Nat, x = q ∧ q < j ∧ Hid (l.getD q false = true))) ∧ Hid (Below wB.heap.size wB wr ∧ Block wr lb (leftV l) 4)) (fun nv iv _ => j - (intOf iv).toNat)
          case atStart => exact ⟨-1, 0, rfl, rfl, Nat.zero_le _, .inl ⟨rfl, Lib.hid (fun q h => absurd h (Nat.not_lt_zero _))⟩, HT⟩
          case round =>
            clear HT
            obtain ⟨x, i, rfl, rfl, hi, hx, HT⟩ := hrel
            have hi0 : (0 : Int) ≤ (i : Int) := by omega
            by_cases hij : i < j
            · have hij' : (i : Int) < j := by omega
              rcases hx with ⟨rfl, HX⟩ | hx
              · have y1 := HT.out.2.cell (leftV_get (l := l) (i := i) (by omega))
                have HF0 : Hid (l.getD i false = firstB l s.done i 0) := Lib.hid (firstB_zero _ _ _).symm
                generalize l.getD i false = F0 at *
                go_wp2_with fail
                go_loopw [10, 11] (fun fv kv wr => ∃ (F : Bool) (k : Nat), fv = .bool F ∧ kv = .int .i64 k ∧ k ≤ j ∧ Hid (F = firstB l s.done i k) ∧ Hid (Below wB.heap.size wB wr ∧ Block wr lb (leftV l) 4)) (fun fv kv _ => j - (intOf kv).toNat)
                case atStart => exact ⟨F0, 0, rfl, rfl, Nat.zero_le _, HF0, HT⟩
                case round =>
                  clear HT HF0 y1
                  obtain ⟨F, k, rfl, rfl, hk, HFE, HBK⟩ := hrel
                  have hk0 : (0 : Int) ≤ (k : Int) := by omega
                  by_cases hF : F = true
                  · subst hF
                    by_cases hkj : k < j
                    · have hkj' : (k : Int) < j := by omega
                      have y1 := HBK.out.2.cell (leftV_get (l := l) (i := k) (by omega))
                      have HLK : Hid (∃ LK, l.getD k false = LK) := Lib.hid ⟨_, rfl⟩
                      obtain ⟨LK, hLK⟩ := HLK.out
                      rw [hLK] at y1
                      have hsuc := firstB_succ l s.done i k
                      rw [← HFE.out, hLK] at hsuc
                      clear HLK
                      cases LK with
                      | false =>
                        have HFS : Hid (true = firstB l s.done i (k + 1)) := Lib.hid (by rw [hsuc]; rfl)
                        clear hsuc hLK
                        obtain ⟨v0, hv0⟩ := Ext.start wr.heap.size wr
                        have HV := Lib.hid hv0
                        have y2 : ∀ u : Ext wr.heap.size wr, u.w.cell? ⟨lb, k, none⟩ = some (.bool false) := fun u => u.cell HBK.out.2.lt y1
                        clear hv0 y1
                        go_wp2_with fail
                        rw [HV.out]
                        refine wp_region_at v0 (by kernel_rfl) (by kernel_rfl) ?_
                        repeat (go_big_quiet_step (fail))
                        refine wpQuiet_nil ?_
                        rintro w2 ⟨u7, rfl⟩
                        have HT7 : Hid (Below wB.heap.size wB u7.w ∧ Block u7.w lb (leftV l) 4) := Lib.hid ⟨HBK.out.1.trans (u7.below.mono HBK.out.1.size), HBK.out.2.below u7.below HBK.out.2.lt⟩
                        go_wp2_with fail
                        go_roundw
                        case rel => exact ⟨true, k + 1, rfl, by go_num, by omega, HFS, HT7⟩
                        case measure => simp [intOf]; omega
                      | true =>
                        by_cases hki : k = i
                        · have HFS : Hid (true = firstB l s.done i (k + 1)) := Lib.hid (by rw [hsuc, decide_eq_true hki]; rfl)
                          subst hki
                          clear hsuc hLK
                          obtain ⟨v0, hv0⟩ := Ext.start wr.heap.size wr
                          have HV := Lib.hid hv0
                          have y2 : ∀ u : Ext wr.heap.size wr, u.w.cell? ⟨lb, k, none⟩ = some (.bool true) := fun u => u.cell HBK.out.2.lt y1
                          clear hv0 y1
                          go_wp2_with fail
                          rw [HV.out]
                          refine wp_region_at v0 (by kernel_rfl) (by kernel_rfl) ?_
                          repeat (go_big_quiet_step (fail))
                          refine wpQuiet_nil ?_
                          rintro w2 ⟨u7, rfl⟩
                          have HT7 : Hid (Below wB.heap.size wB u7.w ∧ Block u7.w lb (leftV l) 4) := Lib.hid ⟨HBK.out.1.trans (u7.below.mono HBK.out.1.size), HBK.out.2.below u7.below HBK.out.2.lt⟩
                          go_wp2_with fail
                          go_roundw
                          case rel => exact ⟨true, k + 1, rfl, by go_num, by omega, HFS, HT7⟩
                          case measure => simp [intOf]; omega
                        · have hki' : ((k : Int) == (i : Int)) = false := by simp; omega
                          obtain ⟨dk, hdk⟩ : ∃ d, s.done[k]? = some d := ⟨_, List.getElem?_eq_getElem (by have := HL.out; omega)⟩
                          obtain ⟨di, hdi⟩ : ∃ d, s.done[i]? = some d := ⟨_, List.getElem?_eq_getElem (by have := HL.out; omega)⟩
                          have HFS : Hid ((!aheadD dk di) = firstB l s.done i (k + 1)) := Lib.hid (by rw [hsuc, decide_eq_false hki, hdk, hdi]; rfl)
                          have hDA := HDA.out.below HBK.out.1
                          obtain ⟨b, off, r1, k1, r2, k2, rfl, hb, z0, z1, z2, z3, s1, s2⟩ := hDA k dk hdk
                          obtain ⟨b', off', p1, m1, p2, m2, hbb, hb', x0, x1, x2, x3, t1, t2⟩ := hDA i di hdi
                          injection hbb with hbb
                          injection hbb with e1 e2 _
                          subst e1 e2
                          have hlk := HDL.out dk (List.mem_of_getElem? hdk)
                          have hli := HDL.out di (List.mem_of_getElem? hdi)
                          have HS := Lib.hid (fun u : Ext wr.heap.size wr => ext_call u (Nat.le_refl _) (law_ahead_any u.w u.w.heap.size dk di r1 r2 p1 p2 k1 k2 m1 m2 (row_below s1 u.below) (row_below t2 u.below) (Nat.le_refl _) (by have := hlk.1; omega) (by have := hli.2; omega)))
                          have q0 : ∀ u : Ext wr.heap.size wr, u.w.cell? ⟨b, off + k * 4, none⟩ = some (.int .i64 dk.at_) := fun u => u.cell hb z0
                          have q1 : ∀ u : Ext wr.heap.size wr, u.w.cell? ⟨b, off + k * 4 + 1, none⟩ = some (.int .i64 dk.end_) := fun u => u.cell hb z1
                          have q2 : ∀ u : Ext wr.heap.size wr, u.w.cell? ⟨b, off + k * 4 + 2, none⟩ = some (.slice r1 dk.reads.length k1) := fun u => u.cell hb z2
                          have q3 : ∀ u : Ext wr.heap.size wr, u.w.cell? ⟨b, off + k * 4 + 3, none⟩ = some (.slice r2 dk.touches.length k2) := fun u => u.cell hb z3
                          have p0 : ∀ u : Ext wr.heap.size wr, u.w.cell? ⟨b, off + i * 4, none⟩ = some (.int .i64 di.at_) := fun u => u.cell hb x0
                          have p1' : ∀ u : Ext wr.heap.size wr, u.w.cell? ⟨b, off + i * 4 + 1, none⟩ = some (.int .i64 di.end_) := fun u => u.cell hb x1
                          have p2' : ∀ u : Ext wr.heap.size wr, u.w.cell? ⟨b, off + i * 4 + 2, none⟩ = some (.slice p1 di.reads.length m1) := fun u => u.cell hb x2
                          have p3 : ∀ u : Ext wr.heap.size wr, u.w.cell? ⟨b, off + i * 4 + 3, none⟩ = some (.slice p2 di.touches.length m2) := fun u => u.cell hb x3
                          generalize aheadD dk di = AH at *
                          generalize dk.at_ = e1 at *
                          generalize dk.end_ = e2 at *
                          generalize dk.reads.length = e3 at *
                          generalize dk.touches.length = e4 at *
                          generalize di.at_ = g1 at *
                          generalize di.end_ = g2 at *
                          generalize di.reads.length = g3 at *
                          generalize di.touches.length = g4 at *
                          clear hsuc hLK hDA z0 z1 z2 z3 x0 x1 x2 x3 s1 s2 t1 t2 hlk hli hdk hdi hb hb'
                          obtain ⟨v0, hv0⟩ := Ext.start wr.heap.size wr
                          have HV := Lib.hid hv0
                          have y2 : ∀ u : Ext wr.heap.size wr, u.w.cell? ⟨lb, k, none⟩ = some (.bool true) := fun u => u.cell HBK.out.2.lt y1
                          clear hv0 y1
                          go_wp2_with fail
                          rw [HV.out]
                          refine wp_region_at v0 (by kernel_rfl) (by kernel_rfl) ?_
                          repeat (go_big_quiet_step ((with_reducible first | exact HS.out _)))
                          refine wpQuiet_nil ?_
                          rintro w2 ⟨u7, rfl⟩
                          have HT7 : Hid (Below wB.heap.size wB u7.w ∧ Block u7.w lb (leftV l) 4) := Lib.hid ⟨HBK.out.1.trans (u7.below.mono HBK.out.1.size), HBK.out.2.below u7.below HBK.out.2.lt⟩
                          go_wp2_with fail
                          go_roundw
                          case rel => exact ⟨!AH, k + 1, rfl, by go_num, by omega, HFS, HT7⟩
                          case measure => simp [intOf]; omega
                    · have hkj' : ¬ (k : Int) < j := by omega
                      obtain rfl : k = j := by omega
                      go_wp2_with fail
                      go_roundw
                      case rel => exact ⟨i, i + 1, rfl, by go_num, by omega, .inr ⟨i, rfl, by omega, Lib.hid (by
                        have h := HFE.out
                        unfold firstB at h
                        have h2 := (Bool.and_eq_true _ _).mp h.symm
                        exact h2.1)⟩, HBK⟩
                      case measure => simp [intOf]; omega
                  · obtain rfl : F = false := by cases F <;> simp_all
                    have HX2 : Hid (∀ q, q < i + 1 → firstB l s.done q j = false) := Lib.hid (fun q hq => by
                      by_cases e : q = i
                      · subst e; exact firstB_false HFE.out.symm hk
                      · exact HX.out q (by omega))
                    by_cases hkj : k < j
                    · have hkj' : (k : Int) < j := by omega
                      go_wp2_with fail
                      go_roundw
                      case rel => exact ⟨-1, i + 1, rfl, by go_num, by omega, .inl ⟨rfl, HX2⟩, HBK⟩
                      case measure => simp [intOf]; omega
                    · have hkj' : ¬ (k : Int) < j := by omega
                      go_wp2_with fail
                      go_roundw
                      case rel => exact ⟨-1, i + 1, rfl, by go_num, by omega, .inl ⟨rfl, HX2⟩, HBK⟩
                      case measure => simp [intOf]; omega
              · obtain ⟨q, rfl, hqj, HQ⟩ := hx
                have hq0 : (0 : Int) ≤ (q : Int) := by omega
                have hqj' : (q : Int) < j := by omega
                have y1 := HT.out.2.cell (leftV_get (l := l) (i := q) (by omega))
                have f1 := HT.out.2.free q
                have HT2 : Hid (Below wB.heap.size wB (wr.setCell ⟨lb, q, none⟩ (.bool false)) ∧ Block (wr.setCell ⟨lb, q, none⟩ (.bool false)) lb (leftV (l.set q false)) 4) := Lib.hid ⟨HT.out.1.setCell (by have := HLB.out; show wB.heap.size ≤ lb; omega) _, by rw [← leftV_set]; exact HT.out.2.set q _⟩
                have HC2 : Hid ((l.set q false).count true + (c + 1) = j) := Lib.hid (by have h1 := count_set HQ.out; have h2 := HC.out; omega)
                go_wp2_with fail
                go_roundw
                case rel => exact ⟨c + 1, l.set q false, by go_num, by omega, by simpa using hll, HC2, HT2⟩
                case measure => simp [intOf]; omega
            · have hij' : ¬ (i : Int) < j := by omega
              rcases hx with ⟨rfl, HX⟩ | hx
              · exfalso
                obtain ⟨q, h1, h2⟩ := HNX.out
                have h3 := HL.out
                rw [HL.out] at h1 h2
                rw [HX.out q (by omega)] at h2
                cases h2
              · obtain ⟨q, rfl, hqj, HQ⟩ := hx
                have hq0 : (0 : Int) ≤ (q : Int) := by omega
                have hqj' : (q : Int) < j := by omega
                have y1 := HT.out.2.cell (leftV_get (l := l) (i := q) (by omega))
                have f1 := HT.out.2.free q
                have HT2 : Hid (Below wB.heap.size wB (wr.setCell ⟨lb, q, none⟩ (.bool false)) ∧ Block (wr.setCell ⟨lb, q, none⟩ (.bool false)) lb (leftV (l.set q false)) 4) := Lib.hid ⟨HT.out.1.setCell (by have := HLB.out; show wB.heap.size ≤ lb; omega) _, by rw [← leftV_set]; exact HT.out.2.set q _⟩
                have HC2 : Hid ((l.set q false).count true + (c + 1) = j) := Lib.hid (by have h1 := count_set HQ.out; have h2 := HC.out; omega)
                go_wp2_with fail
                go_roundw
                case rel => exact ⟨c + 1, l.set q false, by go_num, by omega, by simpa using hll, HC2, HT2⟩
                case measure => simp [intOf]; omega
        · have hcl' : ¬ (c : Int) < j := by omega
          go_wp2_with fail
          refine (HW.out _).mono ?_
          rintro e wJ ⟨rfl, h9⟩
          have H9 := Lib.hid ((HB2.out.trans (HT.out.1.mono HB2.out.size)).trans (h9.mono (HB2.out.trans (HT.out.1.mono HB2.out.size)).size))
          clear h9
          go_wp2_with fail
          go_ret
          exact ⟨by rfl, H9.out⟩
end Go.Proofs.Ytaonfacbmolklaa

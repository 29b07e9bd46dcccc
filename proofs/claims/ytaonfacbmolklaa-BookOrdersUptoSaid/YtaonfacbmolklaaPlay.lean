/- The law's play: the walk. Conditions: the acts' rows are small. -/
import Derived.Test.YtaonfacbmolklaaPlayP
namespace Go.Proofs.Ytaonfacbmolklaa
open Go.RowKit
set_option linter.unusedSimpArgs false
set_option linter.unusedVariables false

theorem Try.infoD : (Try.prog.info? 47).map (fun i => (i.zero, i.size, i.bytes)) = some (some (.agg #[.int .i64 0, .int .i64 0, .slice none 0 0, .slice none 0 0]), 4, 64) := by kernel_rfl
theorem Try.zeroD (w : World) : (zeroValue 66).run Try.prog w = .ok (.pointer none) w := by kernel_rfl
theorem ops_ok {os : List Op} (hsm : (os.map fun o => o.l.length + 1).sum ≤ 1048576) : (∀ o ∈ os, o.l.length ≤ 1048576) ∧ os.length ≤ 1048576 := by
  refine ⟨fun o ho => ?_, ?_⟩
  · obtain ⟨i, hi⟩ := List.mem_iff_getElem?.1 ho
    have := sum_get (fun o : Op => o.l.length + 1) hi
    have h2 : o.l.length + 1 ≤ (os.map fun o => o.l.length + 1).sum := this
    omega
  · have h1 : os.length ≤ (os.map fun o => o.l.length + 1).sum := by
      clear hsm
      induction os with
      | nil => simp
      | cons o os ih => simp only [List.map_cons, List.sum_cons, List.length_cons]; omega
    omega
def PlayPost (u0 : World) (B P : Nat) (S : Nat → Prop) (s : PS) (e : Ending) (w' : World) : Prop := ∃ dv ps n, e = .returned dv ∧ PQ u0 B P u0.heap.size S (fun _ => False) s.bk s.act ps dv s.done n w'
theorem stop_here {p : Prop} (h : Hid p) : p := h.out
set_option maxRecDepth 100000 in
set_option maxHeartbeats 16000000 in
theorem play_any (W u0 : World) (P : Nat) (S : Nat → Prop) (a0 : Option Addr) (cap0 : Nat) (os : List Op) (hrow : Cells W.heap.size W a0 (os.flatMap Op.cells)) (hok : ∀ o ∈ os, o.ok W) (hln : ∀ o ∈ os, o.l.length ≤ 1048576) (hnl : os.length ≤ 1048576)
    (hb : Below W.heap.size W u0) (hB : BookAt u0 W.heap.size P ⟨[], 0⟩ S) (hS : ∀ k, S k → W.heap.size ≤ k ∧ k < u0.heap.size) :
    Calls Try.prog 23 #[.pointer (some ⟨P, 0, none⟩), .slice a0 os.length cap0] u0 (PlayPost u0 W.heap.size P S (playS os 120)) := by
  have HROW := Lib.hid hrow
  have HOK := Lib.hid hok
  have HLN := Lib.hid hln
  have HBW := Lib.hid hb
  have K0 := Lib.hid (pq_start hb hB hS)
  have HPI := Lib.hid (PInv.play os hln)
  obtain ⟨m, hl⟩ : ∃ m, os.length = m := ⟨_, rfl⟩
  rw [hl] at hnl HPI ⊢
  have HL := Lib.hid hl
  obtain ⟨Q, hQ⟩ : ∃ Q, PlayPost u0 W.heap.size P S (playS os 120) = Q := ⟨_, rfl⟩
  rw [hQ]
  have HQ := Lib.hid hQ
  obtain ⟨M, hM⟩ : ∃ M, u0.heap.size = M := ⟨_, rfl⟩
  have HM := Lib.hid hM
  have K1 : Hid (PQ u0 W.heap.size P M S (fun _ => False) ⟨[], 0⟩ (fun _ => none) (fun _ => 0) (.slice none 0 0) [] 0 (u0.alloc (.map #[] 0))) := Lib.hid (by rw [← hM]; exact K0.out)
  clear hrow hok hln hb hB hS hl hQ K0 hM
  have hmm := @run_makeMap Try.prog
  go_enter Try.func23, Try.ntmps23
  go_wp2_with fail
  rw [HM.out]
  obtain ⟨u1, hu1⟩ : ∃ u, u0.alloc (.map #[] 0) = u := ⟨_, rfl⟩
  rw [hu1] at K1
  rw [hu1]
  clear hu1 hmm
  go_loopw [5, 7] (fun dv jv wr => ∃ (dv' : Value) (j n : Nat) (bk : Bk) (act : Int → Option D) (done : List D) (ps : Int → Nat), dv' = dv ∧ jv = .int .i64 j ∧ j ≤ m ∧ j ≤ 120 ∧ n ≤ j ∧ Hid (playS os j = ⟨bk, act, done⟩) ∧ Hid (PQ u0 W.heap.size P M S (fun _ => False) bk act ps dv done n wr)) (fun _ jv _ => m - (intOf jv).toNat)
  case atStart => exact ⟨_, 0, 0, ⟨[], 0⟩, fun _ => none, [], fun _ => 0, rfl, rfl, Nat.zero_le _, Nat.zero_le _, Nat.le_refl _, Lib.hid rfl, K1⟩
  case round =>
    obtain ⟨dv, j, n, bk, act, done, ps, rfl, rfl, hj, hj1, hnj, HS, HT⟩ := hrel
    have hj0 : (0 : Int) ≤ (j : Int) := by omega
    by_cases hlt : j < m
    · have hlt' : (j : Int) < m := by omega
      by_cases hlh : j < 120
      · have hlh' : (j : Int) < 120 := by omega
        obtain ⟨o, ho⟩ : ∃ o, os[j]? = some o := get_some (by have := HL.out; omega)
        obtain ⟨bo, off, rfl, hb, hc⟩ := Cells.elem (size := 4) HROW.out (fun _ _ => rfl) (by omega) ho
        have hbo := HOK.out o (List.mem_of_getElem? ho)
        have hll := HLN.out o (List.mem_of_getElem? ho)
        have hpi := HPI.out j hj
        rw [HS.out] at hpi
        have HI := Lib.hid hpi
        have hbt0 := hpi.ok.last
        have hbt1 := hpi.le
        have hdn := hpi.dn
        have HFIN : Hid (∀ s, stepP ⟨bk, act, done⟩ o = s → playS os (j + 1) = s) := Lib.hid (fun s hs => by rw [playS_succ ho, HS.out, hs])
        have hwb2 : Below W.heap.size W wr := HT.out.world HBW.out
        have z0 : wr.cell? ⟨bo, off + j * 4, none⟩ = some (.int .i64 o.kind) := by rw [hwb2.cell hb, show off + j * 4 = off + (j * 4 + 0) from by omega]; exact hc 0 _ rfl
        have z1 : wr.cell? ⟨bo, off + j * 4 + 1, none⟩ = some (.int .i64 o.who) := by rw [hwb2.cell hb, show off + j * 4 + 1 = off + (j * 4 + 1) from by omega]; exact hc 1 _ rfl
        have z2 : wr.cell? ⟨bo, off + j * 4 + 2, none⟩ = some (.int .i64 o.at_) := by rw [hwb2.cell hb, show off + j * 4 + 2 = off + (j * 4 + 2) from by omega]; exact hc 2 _ rfl
        have z3 : wr.cell? ⟨bo, off + j * 4 + 3, none⟩ = some (.slice o.a o.l.length o.c) := by rw [hwb2.cell hb, show off + j * 4 + 3 = off + (j * 4 + 3) from by omega]; exact hc 3 _ rfl
        obtain ⟨ok, who, at_, oa, oc, ol⟩ := o
        simp only at z0 z1 z2 z3 hll
        have HOK1 := Lib.hid hbo
        have HT1 := Lib.hid (HT.out.own [.int .i64 ok, .int .i64 who, .int .i64 at_, .slice oa ol.length oc])
        have HLL := Lib.hid hll
        have hkq := Lib.hid (kq_ok hbo.who)
        obtain ⟨g1, hg1, hlk⟩ := HT1.out.look
        obtain ⟨pv, hpv⟩ : ∃ pv, ptrO ps act who = pv := ⟨_, rfl⟩
        have HG1 := Lib.hid hg1
        have HLK : Hid ((g1 who).getD (.pointer none) = pv) := Lib.hid (by rw [hlk who, hpv])
        have HPV := Lib.hid hpv
        have hn8 : n < 8000000 := by omega
        clear ho hb hc hbo hll hpi hwb2 hg1 hlk hpv hnl
        obtain ⟨ob, hob⟩ : ∃ ob, wr.heap.size = ob := ⟨_, rfl⟩
        rw [hob] at HT1
        have HOB := Lib.hid hob
        clear hob
        obtain ⟨w1, hw1⟩ : ∃ w1, wr.alloc (.cells #[.int .i64 ok, .int .i64 who, .int .i64 at_, .slice oa ol.length oc] 31) = w1 := ⟨_, rfl⟩
        have HT2 : Hid (PQO u0 W.heap.size P M S ob [.int .i64 ok, .int .i64 who, .int .i64 at_, .slice oa ol.length oc] bk act ps dv done n w1) := Lib.hid (by rw [← hw1]; exact HT1.out)
        have HW1 := Lib.hid hw1
        clear hw1 HT1
        by_cases hk0 : ok = 0
        · as_aux_lemma =>
            subst hk0
            go_wp2_with (at_lookup; refine wpList_lookup_is _ rfl _ _ 65 rfl 2 66 KQ Try.underlying65 (Try.zeroD _) M n g1 rfl HG1.out who rfl hkq.out pv HLK.out ?_)
            rw [HW1.out, HOB.out]
            have y1 := HT2.out.2.1.cell (i := 1) rfl
            have y3 := HT2.out.2.1.cell (i := 3) rfl
            clear z0 z1 z2 z3 HW1 HOB HG1 HLK
            refine (pq_last HT2.out).mono ?_
            rintro e w2 ⟨rfl, rfl⟩
            go_wp2_with fail
            refine (pq_open who bk.last HT2.out HI.out.ok (by omega)).mono ?_
            rintro e w3 ⟨rfl, ht3⟩
            have HT3 := Lib.hid ht3
            have y1 := ht3.2.1.cell (i := 1) rfl
            have hst : stepP ⟨bk, act, done⟩ ⟨0, who, at_, oa, oc, ol⟩ = ⟨(openB bk who bk.last).2, if (openB bk who bk.last).1 = 0 then ups act who (some ⟨bk.last, 0, [], []⟩) else act, done⟩ := by unfold stepP; simp only [if_true]
            have HST := Lib.hid hst
            generalize (openB bk who bk.last).2 = b' at *
            generalize (openB bk who bk.last).1 = ov at *
            generalize bk.last = bt at *
            clear ht3 hst HT2
            by_cases hv : ov = 0
            · have hsv : stepP ⟨bk, act, done⟩ ⟨0, who, at_, oa, oc, ol⟩ = ⟨b', ups act who (some ⟨bt, 0, [], []⟩), done⟩ := by rw [HST.out, if_pos hv]
              have HSV := Lib.hid hsv
              have hv' : (ov == 0) = true := by simpa using hv
              clear hsv HST
              have hz3 : (w3.alloc (.cells #[.int .i64 bt, .int .i64 0, .slice none 0 0, .slice none 0 0] 47)).heap.size = w3.heap.size + 1 := by simp
              have hobl := HT3.out.2.1.lt
              have y1' : (w3.alloc (.cells #[.int .i64 bt, .int .i64 0, .slice none 0 0, .slice none 0 0] 47)).cell? ⟨ob, 1, none⟩ = some (.int .i64 who) := by rw [World.cell?_alloc_past _ _ _ hobl]; exact y1
              obtain ⟨go1, hgo2, hgo3⟩ := HT3.out.opened bt
              have go2 := Lib.hid hgo2
              have HGO3 := Lib.hid hgo3
              clear hgo2 hgo3
              go_wp2_with (at_mapUpdate; refine wpList_mapUpdate_is _ rfl _ _ _ 65 rfl 2 66 KQ Try.underlying65 M n go1 rfl go2.out (by unfold maxLen; omega) who _ rfl rfl hkq.out ?_; intro w9 hm9 hg9 hs9)
              have HE := Lib.hid (HGO3.out who w9 hm9 hg9)
              clear hm9 hg9 hs9 HGO3
              go_roundw
              case rel => exact ⟨_, j + 1, n + 1, b', ups act who (some ⟨bt, 0, [], []⟩), done, ups ps who w3.heap.size, rfl, by go_num, by omega, by omega, by omega, Lib.hid (HFIN.out _ (HSV.out)), Lib.hid (HE.out.off)⟩
              case measure => simp [intOf]; omega
            · have hsv : stepP ⟨bk, act, done⟩ ⟨0, who, at_, oa, oc, ol⟩ = ⟨b', act, done⟩ := by rw [HST.out, if_neg hv]
              have HSV := Lib.hid hsv
              have hv' : (ov == 0) = false := by simpa using hv
              clear hsv HST
              go_wp2_with fail
              go_roundw
              case rel => exact ⟨_, j + 1, n, b', act, done, ps, rfl, by go_num, by omega, by omega, by omega, Lib.hid (HFIN.out _ (HSV.out)), Lib.hid (HT3.out.off)⟩
              case measure => simp [intOf]; omega
        by_cases hk1 : ok = 1
        · as_aux_lemma =>
            subst hk1
            go_wp2_with (at_lookup; refine wpList_lookup_is _ rfl _ _ 65 rfl 2 66 KQ Try.underlying65 (Try.zeroD _) M n g1 rfl HG1.out who rfl hkq.out pv HLK.out ?_)
            rw [HW1.out, HOB.out]
            have y1 := HT2.out.2.1.cell (i := 1) rfl
            have y3 := HT2.out.2.1.cell (i := 3) rfl
            clear z0 z1 z2 z3 HW1 HOB HG1 HLK
            refine (pq_read who oc HBW.out HT2.out HI.out.ok (by omega) HOK1.out.row HLL.out).mono ?_
            rintro e w3 ⟨rfl, ht3⟩
            have HT3 := Lib.hid ht3
            have y3 := ht3.2.1.cell (i := 3) rfl
            have hst : stepP ⟨bk, act, done⟩ ⟨1, who, at_, oa, oc, ol⟩ = ⟨(readB bk who ol).2, if (readB bk who ol).1 = 0 then addR act who ol else act, done⟩ := by unfold stepP; simp
            have HST := Lib.hid hst
            have HLIM := Lib.hid (HI.out.lim who)
            generalize (readB bk who ol).2 = b' at *
            generalize (readB bk who ol).1 = ov at *
            clear ht3 hst HT2 HI
            by_cases hv : ov = 0
            · have hv' : (ov == 0) = true := by simpa using hv
              cases hact : act who with
              | none =>
                have hsv : stepP ⟨bk, act, done⟩ ⟨1, who, at_, oa, oc, ol⟩ = ⟨b', act, done⟩ := by rw [HST.out, if_pos hv]; unfold addR; rw [hact]
                have HSV := Lib.hid hsv
                obtain rfl : pv = .pointer none := by rw [← HPV.out]; unfold ptrO; rw [hact]
                clear hsv HST hact HLIM HPV
                go_wp2_with fail
                go_roundw
                case rel => exact ⟨_, j + 1, n, b', act, done, ps, rfl, by go_num, by omega, by omega, by omega, Lib.hid (HFIN.out _ (HSV.out)), Lib.hid (HT3.out.off)⟩
                case measure => simp [intOf]; omega
              | some d =>
                have hsv : stepP ⟨bk, act, done⟩ ⟨1, who, at_, oa, oc, ol⟩ = ⟨b', addR act who ol, done⟩ := by rw [HST.out, if_pos hv]
                have HSV := Lib.hid hsv
                obtain rfl : pv = .pointer (some ⟨ps who, 0, none⟩) := by rw [← HPV.out]; unfold ptrO; rw [hact]
                have hlm := HLIM.out d hact
                obtain ⟨a1, c1, hpl, hcell, hfr, hown, hne, hway⟩ := HT3.out.reads hact
                obtain ⟨d1, c2, hpl2, hcell2, hfr2, hown2, hne2, hway2⟩ := HT3.out.drew.reads hact
                have hsl : d1 = a1 ∧ c2 = c1 := by
                  have h1 : (Value.slice d1 d.reads.length c2) = .slice a1 d.reads.length c1 := by
                    have h2 : w3.drew.cell? ⟨ps who, 2, none⟩ = w3.cell? ⟨ps who, 2, none⟩ := rfl
                    rw [h2, hcell] at hcell2
                    injection hcell2 with hcell2
                    exact hcell2.symm
                  injection h1 with e1 e2 e3
                  exact ⟨e1, e3⟩
                obtain ⟨rfl, rfl⟩ := hsl
                have HOWN2 := Lib.hid hown2
                have HWAY2 := Lib.hid hway2
                have hMl : u0.heap.size ≤ w3.heap.size := HT3.out.1.size
                have hwb : Below W.heap.size W w3.drew := HT3.out.drew.world HBW.out
                have hcl : Cells W.heap.size W oa (ol.map Value.string) := HOK1.out.row
                have hcl2 : Cells W.heap.size w3.drew oa (ol.map Value.string) := by
                  rcases hcl with h | ⟨b, off, h1, h2, h3⟩
                  · exact .inl h
                  · exact .inr ⟨b, off, h1, h2, fun i v hi => by rw [hwb.cell h2]; exact h3 i v hi⟩
                have HCL2 := Lib.hid hcl2
                have HNIL := Lib.hid HOK1.out.nil
                obtain ⟨iS, siS, szS, s1S, s2S⟩ := info_parts Try.infoStr
                have h63 : d.reads.length + ol.length ≤ maxLen := by
                  have h1 : d.reads.length ≤ 120 * 1048576 := Nat.le_trans hlm.1 (Nat.mul_le_mul_right _ hj1)
                  have h2 := HLL.out
                  unfold maxLen
                  omega
                have hby : (d.reads.length + ol.length) * 16 ≤ 140737488355328 := by
                  have h1 : d.reads.length ≤ 120 * 1048576 := Nat.le_trans hlm.1 (Nat.mul_le_mul_right _ hj1)
                  have h2 := HLL.out
                  omega
                have H63 := Lib.hid h63
                have HBY := Lib.hid hby
                have hone : ∀ u ∈ ol.map Value.string, u.oneCell' = true := fun u hu => by obtain ⟨s, _, rfl⟩ := List.mem_map.1 hu; rfl
                have HONE := Lib.hid hone
                have hx63 : (ol.map Value.string).length = ol.length * 1 := by rw [List.length_map, Nat.mul_one]
                have HX63 := Lib.hid hx63
                clear hsv HST hact HLIM HPV hlm hown hway hown2 hway2 hcell2 hfr2 hpl2 hne2 hwb hcl hcl2 h63 hby hone hx63
                go_wp2_with fail
                apply wp_midG (α := Option Addr) (β := Nat) (F := fun x y w4 => w4.setCell ⟨ps who, 2, none⟩ (.slice x (d.reads.length + ol.length) y)) (R := fun x y w4 => w4.ownsRow u0.heap.size 9 1 (.slice x (d.reads.length + ol.length) y) (d.reads.length + ol.length) (d.reads.map Value.string ++ ol.map Value.string) ∧ w3.drew.grownBy w4 (Value.slice d1 d.reads.length c2).ownBlock ∧ ((Value.slice x (d.reads.length + ol.length) y).ownBlock = (Value.slice d1 d.reads.length c2).ownBlock ∨ (Value.slice x (d.reads.length + ol.length) y).ownBlock = some w3.drew.heap.size))
                case h =>
                  go_region_law (first | (refine step_append_rows (by rfl) _ _ _ (by rfl) u0.heap.size 9 iS _ 1 16 Try.underlying29 siS szS s1S s2S rfl (by omega) (.slice d1 d.reads.length c2) d.reads.length (d.reads.map Value.string) (by rfl) HOWN2.out oa ol.length oc W.heap.size (ol.map Value.string) (by rfl) HNIL.out HX63.out HCL2.out HONE.out H63.out HBY.out hMl ?_; intro x4 y4 w4 hown4 hg4 hat4; have hb4 := hg4.block (ps who) hpl (fun e => hne e.symm); have k1 : w4.cell? ⟨ps who, 2, none⟩ = some (.slice d1 d.reads.length c2) := (World.cell?_of_block (a := ⟨ps who, 2, none⟩) hb4).trans hcell; have k2 : w4.frozen? ⟨ps who, 2, none⟩ = false := (World.frozen?_of_block (a := ⟨ps who, 2, none⟩) hb4).trans hfr))
                  all_goals exact ⟨x4, y4, w4, ⟨hown4, hg4, hat4⟩, rfl, rfl⟩
                rintro x4 y4 w4 ⟨hown4, hg4, hat4⟩
                have HE := Lib.hid (HWAY2.out x4 (d.reads.length + ol.length) y4 ol w4 (by rw [List.length_append]) (by rw [List.map_append]; exact hown4) hg4 hat4)
                clear hown4 hg4 hat4 HWAY2 HOWN2
                go_wp2_with fail
                go_roundw
                case rel => exact ⟨_, j + 1, n, b', addR act who ol, done, ps, rfl, by go_num, by omega, by omega, by omega, Lib.hid (HFIN.out _ (HSV.out)), Lib.hid (HE.out.off)⟩
                case measure => simp [intOf]; omega
            · have hsv : stepP ⟨bk, act, done⟩ ⟨1, who, at_, oa, oc, ol⟩ = ⟨b', act, done⟩ := by rw [HST.out, if_neg hv]
              have HSV := Lib.hid hsv
              have hv' : (ov == 0) = false := by simpa using hv
              clear hsv HST HLIM HPV
              go_wp2_with fail
              go_roundw
              case rel => exact ⟨_, j + 1, n, b', act, done, ps, rfl, by go_num, by omega, by omega, by omega, Lib.hid (HFIN.out _ (HSV.out)), Lib.hid (HT3.out.off)⟩
              case measure => simp [intOf]; omega
        by_cases hk2 : ok = 2
        · as_aux_lemma =>
            subst hk2
            go_wp2_with (at_lookup; refine wpList_lookup_is _ rfl _ _ 65 rfl 2 66 KQ Try.underlying65 (Try.zeroD _) M n g1 rfl HG1.out who rfl hkq.out pv HLK.out ?_)
            rw [HW1.out, HOB.out]
            have y1 := HT2.out.2.1.cell (i := 1) rfl
            have y3 := HT2.out.2.1.cell (i := 3) rfl
            clear z0 z1 z2 z3 HW1 HOB HG1 HLK
            refine (pq_touch who oc HBW.out HT2.out HI.out.ok (by omega) HOK1.out.row HLL.out).mono ?_
            rintro e w3 ⟨rfl, ht3⟩
            have HT3 := Lib.hid ht3
            have y3 := ht3.2.1.cell (i := 3) rfl
            have hst : stepP ⟨bk, act, done⟩ ⟨2, who, at_, oa, oc, ol⟩ = ⟨(touchB bk who ol).2, if (touchB bk who ol).1 = 0 then addT act who ol else act, done⟩ := by unfold stepP; simp
            have HST := Lib.hid hst
            have HLIM := Lib.hid (HI.out.lim who)
            generalize (touchB bk who ol).2 = b' at *
            generalize (touchB bk who ol).1 = ov at *
            clear ht3 hst HT2 HI
            by_cases hv : ov = 0
            · have hv' : (ov == 0) = true := by simpa using hv
              cases hact : act who with
              | none =>
                have hsv : stepP ⟨bk, act, done⟩ ⟨2, who, at_, oa, oc, ol⟩ = ⟨b', act, done⟩ := by rw [HST.out, if_pos hv]; unfold addT; rw [hact]
                have HSV := Lib.hid hsv
                obtain rfl : pv = .pointer none := by rw [← HPV.out]; unfold ptrO; rw [hact]
                clear hsv HST hact HLIM HPV
                go_wp2_with fail
                go_roundw
                case rel => exact ⟨_, j + 1, n, b', act, done, ps, rfl, by go_num, by omega, by omega, by omega, Lib.hid (HFIN.out _ (HSV.out)), Lib.hid (HT3.out.off)⟩
                case measure => simp [intOf]; omega
              | some d =>
                have hsv : stepP ⟨bk, act, done⟩ ⟨2, who, at_, oa, oc, ol⟩ = ⟨b', addT act who ol, done⟩ := by rw [HST.out, if_pos hv]
                have HSV := Lib.hid hsv
                obtain rfl : pv = .pointer (some ⟨ps who, 0, none⟩) := by rw [← HPV.out]; unfold ptrO; rw [hact]
                have hlm := HLIM.out d hact
                obtain ⟨a1, c1, hpl, hcell, hfr, hown, hne, hway⟩ := HT3.out.touches hact
                obtain ⟨d1, c2, hpl2, hcell2, hfr2, hown2, hne2, hway2⟩ := HT3.out.drew.touches hact
                have hsl : d1 = a1 ∧ c2 = c1 := by
                  have h1 : (Value.slice d1 d.touches.length c2) = .slice a1 d.touches.length c1 := by
                    have h2 : w3.drew.cell? ⟨ps who, 3, none⟩ = w3.cell? ⟨ps who, 3, none⟩ := rfl
                    rw [h2, hcell] at hcell2
                    injection hcell2 with hcell2
                    exact hcell2.symm
                  injection h1 with e1 e2 e3
                  exact ⟨e1, e3⟩
                obtain ⟨rfl, rfl⟩ := hsl
                have HOWN2 := Lib.hid hown2
                have HWAY2 := Lib.hid hway2
                have hMl : u0.heap.size ≤ w3.heap.size := HT3.out.1.size
                have hwb : Below W.heap.size W w3.drew := HT3.out.drew.world HBW.out
                have hcl : Cells W.heap.size W oa (ol.map Value.string) := HOK1.out.row
                have hcl2 : Cells W.heap.size w3.drew oa (ol.map Value.string) := by
                  rcases hcl with h | ⟨b, off, h1, h2, h3⟩
                  · exact .inl h
                  · exact .inr ⟨b, off, h1, h2, fun i v hi => by rw [hwb.cell h2]; exact h3 i v hi⟩
                have HCL2 := Lib.hid hcl2
                have HNIL := Lib.hid HOK1.out.nil
                obtain ⟨iS, siS, szS, s1S, s2S⟩ := info_parts Try.infoStr
                have h63 : d.touches.length + ol.length ≤ maxLen := by
                  have h1 : d.touches.length ≤ 120 * 1048576 := Nat.le_trans hlm.2 (Nat.mul_le_mul_right _ hj1)
                  have h2 := HLL.out
                  unfold maxLen
                  omega
                have hby : (d.touches.length + ol.length) * 16 ≤ 140737488355328 := by
                  have h1 : d.touches.length ≤ 120 * 1048576 := Nat.le_trans hlm.2 (Nat.mul_le_mul_right _ hj1)
                  have h2 := HLL.out
                  omega
                have H63 := Lib.hid h63
                have HBY := Lib.hid hby
                have hone : ∀ u ∈ ol.map Value.string, u.oneCell' = true := fun u hu => by obtain ⟨s, _, rfl⟩ := List.mem_map.1 hu; rfl
                have HONE := Lib.hid hone
                have hx63 : (ol.map Value.string).length = ol.length * 1 := by rw [List.length_map, Nat.mul_one]
                have HX63 := Lib.hid hx63
                clear hsv HST hact HLIM HPV hlm hown hway hown2 hway2 hcell2 hfr2 hpl2 hne2 hwb hcl hcl2 h63 hby hone hx63
                go_wp2_with fail
                apply wp_midG (α := Option Addr) (β := Nat) (F := fun x y w4 => w4.setCell ⟨ps who, 3, none⟩ (.slice x (d.touches.length + ol.length) y)) (R := fun x y w4 => w4.ownsRow u0.heap.size 9 1 (.slice x (d.touches.length + ol.length) y) (d.touches.length + ol.length) (d.touches.map Value.string ++ ol.map Value.string) ∧ w3.drew.grownBy w4 (Value.slice d1 d.touches.length c2).ownBlock ∧ ((Value.slice x (d.touches.length + ol.length) y).ownBlock = (Value.slice d1 d.touches.length c2).ownBlock ∨ (Value.slice x (d.touches.length + ol.length) y).ownBlock = some w3.drew.heap.size))
                case h =>
                  go_region_law (first | (refine step_append_rows (by rfl) _ _ _ (by rfl) u0.heap.size 9 iS _ 1 16 Try.underlying29 siS szS s1S s2S rfl (by omega) (.slice d1 d.touches.length c2) d.touches.length (d.touches.map Value.string) (by rfl) HOWN2.out oa ol.length oc W.heap.size (ol.map Value.string) (by rfl) HNIL.out HX63.out HCL2.out HONE.out H63.out HBY.out hMl ?_; intro x4 y4 w4 hown4 hg4 hat4; have hb4 := hg4.block (ps who) hpl (fun e => hne e.symm); have k1 : w4.cell? ⟨ps who, 3, none⟩ = some (.slice d1 d.touches.length c2) := (World.cell?_of_block (a := ⟨ps who, 3, none⟩) hb4).trans hcell; have k2 : w4.frozen? ⟨ps who, 3, none⟩ = false := (World.frozen?_of_block (a := ⟨ps who, 3, none⟩) hb4).trans hfr))
                  all_goals exact ⟨x4, y4, w4, ⟨hown4, hg4, hat4⟩, rfl, rfl⟩
                rintro x4 y4 w4 ⟨hown4, hg4, hat4⟩
                have HE := Lib.hid (HWAY2.out x4 (d.touches.length + ol.length) y4 ol w4 (by rw [List.length_append]) (by rw [List.map_append]; exact hown4) hg4 hat4)
                clear hown4 hg4 hat4 HWAY2 HOWN2
                go_wp2_with fail
                go_roundw
                case rel => exact ⟨_, j + 1, n, b', addT act who ol, done, ps, rfl, by go_num, by omega, by omega, by omega, Lib.hid (HFIN.out _ (HSV.out)), Lib.hid (HE.out.off)⟩
                case measure => simp [intOf]; omega
            · have hsv : stepP ⟨bk, act, done⟩ ⟨2, who, at_, oa, oc, ol⟩ = ⟨b', act, done⟩ := by rw [HST.out, if_neg hv]
              have HSV := Lib.hid hsv
              have hv' : (ov == 0) = false := by simpa using hv
              clear hsv HST HLIM HPV
              go_wp2_with fail
              go_roundw
              case rel => exact ⟨_, j + 1, n, b', act, done, ps, rfl, by go_num, by omega, by omega, by omega, Lib.hid (HFIN.out _ (HSV.out)), Lib.hid (HT3.out.off)⟩
              case measure => simp [intOf]; omega
        by_cases hk3 : ok = 3
        · as_aux_lemma =>
            subst hk3
            go_wp2_with (at_lookup; refine wpList_lookup_is _ rfl _ _ 65 rfl 2 66 KQ Try.underlying65 (Try.zeroD _) M n g1 rfl HG1.out who rfl hkq.out pv HLK.out ?_)
            rw [HW1.out, HOB.out]
            have y1 := HT2.out.2.1.cell (i := 1) rfl
            have y3 := HT2.out.2.1.cell (i := 3) rfl
            clear z0 z1 z2 z3 HW1 HOB HG1 HLK
            refine (pq_last HT2.out).mono ?_
            rintro e w2 ⟨rfl, rfl⟩
            have hcl := pq_close who (bk.last + 1) HT2.out HI.out.ok (by omega)
            have HST : Hid (stepP ⟨bk, act, done⟩ ⟨3, who, at_, oa, oc, ol⟩ = ⟨(closeB bk who (bk.last + 1)).2, ups act who none, if (closeB bk who (bk.last + 1)).1 = 0 then addD act done who (bk.last + 1) else done⟩) := Lib.hid (by unfold stepP; simp)
            generalize (closeB bk who (bk.last + 1)).2 = b' at *
            generalize (closeB bk who (bk.last + 1)).1 = ov at *
            generalize bk.last = bt at *
            have HCL := Lib.hid hcl
            clear hcl HT2 HI
            go_wp2_with fail
            refine HCL.out.mono ?_
            rintro e w3 ⟨rfl, ht3⟩
            have HT3 := Lib.hid ht3
            have y1 := ht3.2.1.cell (i := 1) rfl
            clear ht3 HCL
            by_cases hv : ov = 0
            · have hv' : (ov == 0) = true := by simpa using hv
              cases hact : act who with
              | none =>
                have hsv : stepP ⟨bk, act, done⟩ ⟨3, who, at_, oa, oc, ol⟩ = ⟨b', ups act who none, done⟩ := by rw [HST.out, if_pos hv]; unfold addD; rw [hact]
                have HSV := Lib.hid hsv
                obtain rfl : pv = .pointer none := by rw [← HPV.out]; unfold ptrO; rw [hact]
                clear hsv HST hact HPV
                obtain ⟨gn1, hgn2, hgn3⟩ := HT3.out.nil
                have gn2 := Lib.hid hgn2
                have HGN3 := Lib.hid hgn3
                clear hgn2 hgn3
                go_wp2_with (at_mapUpdate; refine wpList_mapUpdate_is _ rfl _ _ _ 65 rfl 2 66 KQ Try.underlying65 M n gn1 rfl gn2.out (by unfold maxLen; omega) who _ rfl rfl hkq.out ?_; intro w9 hm9 hg9 hs9)
                have HE := Lib.hid (HGN3.out who w9 hm9 hg9)
                clear hm9 hg9 hs9 HGN3
                go_roundw
                case rel => exact ⟨_, j + 1, n + 1, b', ups act who none, done, ps, rfl, by go_num, by omega, by omega, by omega, Lib.hid (HFIN.out _ (HSV.out)), Lib.hid (HE.out.off)⟩
                case measure => simp [intOf]; omega
              | some d =>
                have hsv : stepP ⟨bk, act, done⟩ ⟨3, who, at_, oa, oc, ol⟩ = ⟨b', ups act who none, addD act done who (bt + 1)⟩ := by rw [HST.out, if_pos hv]
                have HSV := Lib.hid hsv
                obtain rfl : pv = .pointer (some ⟨ps who, 0, none⟩) := by rw [← HPV.out]; unfold ptrO; rw [hact]
                obtain ⟨v1, v2, cl, g3, hpl, hblk, ⟨r1, n1, k1, rfl⟩, ⟨r2, n2, k2, rfl⟩, hown, hne, hway⟩ := HT3.out.closed (bt + 1) hact
                have HWAY := Lib.hid hway
                have x1 := hblk.cell (i := 1) rfl
                have f1 := hblk.free 1
                have hb2 : Block (w3.setCell ⟨ps who, 1, none⟩ (.int .i64 (bt + 1))) (ps who) [.int .i64 d.at_, .int .i64 (bt + 1), .slice r1 n1 k1, .slice r2 n2 k2] 47 := hblk.set 1 _
                have q0 := hb2.cell (i := 0) rfl
                have q1 := hb2.cell (i := 1) rfl
                have q2 := hb2.cell (i := 2) rfl
                have q3 := hb2.cell (i := 3) rfl
                have HOW2 : Hid ((w3.setCell ⟨ps who, 1, none⟩ (.int .i64 (bt + 1))).ownsRow u0.heap.size 47 4 dv done.length cl) := Lib.hid (own_setCell hown hne _)
                have hMl : u0.heap.size ≤ w3.heap.size := HT3.out.1.size
                have hone : ∀ u ∈ ([.int .i64 d.at_, .int .i64 (bt + 1), .slice r1 n1 k1, .slice r2 n2 k2] : List Value), u.oneCell' = true := fun u hu => by
                  simp only [List.mem_cons, List.not_mem_nil, or_false] at hu
                  rcases hu with rfl | rfl | rfl | rfl
                  · rfl
                  · rfl
                  · rfl
                  · rfl
                have HONE := Lib.hid hone
                obtain ⟨iD, siD, szD, s1D, s2D⟩ := info_parts Try.infoD
                obtain ⟨dn, hdl⟩ : ∃ dn, done.length = dn := ⟨_, rfl⟩
                have HDL := Lib.hid hdl
                obtain ⟨a5, c5, hdv⟩ := own_form hown
                rw [hdl] at HOW2 HWAY hdn hdv
                clear hown hne
                subst hdv
                obtain ⟨dat, hdat⟩ : ∃ x, d.at_ = x := ⟨_, rfl⟩
                rw [hdat] at q0 HONE HWAY
                have hbn := Block.new (w3.setCell ⟨ps who, 1, none⟩ (.int .i64 (bt + 1))) [.int .i64 dat, .int .i64 (bt + 1), .slice r1 n1 k1, .slice r2 n2 k2] 47
                rw [show (w3.setCell ⟨ps who, 1, none⟩ (.int .i64 (bt + 1))).heap.size = w3.heap.size from by simp [World.setCell]] at hbn
                have HBN := Lib.hid hbn
                clear hbn hsv HST hact HPV hway hone hb2 hblk hdl hdat
                go_wp2_with (at_builtin; refine stop_here ?_)
                refine Lib.hid ?_
                refine wpList_append_lies _ rfl _ _ 42 rfl u0.heap.size 47 iD _ 4 64 Try.underlying42 siD szD s1D s2D rfl (by omega) (.slice a5 dn c5) dn cl rfl (HOW2.out.alloc _) ⟨w3.heap.size, 0, none⟩ 1 1 [.int .i64 dat, .int .i64 (bt + 1), .slice r1 n1 k1, .slice r2 n2 k2] rfl rfl (World.news_of_block (cs := #[.int .i64 dat, .int .i64 (bt + 1), .slice r1 n1 k1, .slice r2 n2 k2]) (t := 47) (fr := (0, 0)) HBN.out) HONE.out (by omega) (by unfold maxLen; omega) (by omega) (by simp; omega) (w3.heap.size + 1) (by simp [World.setCell]) ?_
                intro g4 c4 w4 hown4 hg4 hat4 hlt4
                obtain ⟨hm4, hob4, hway4⟩ := HWAY.out _ _ w4 _ hown4 hg4 (by
                  rcases hat4 with h | h
                  · exact .inl h.symm
                  · exact .inr (by rw [h]; rfl))
                have gm2 := Lib.hid hm4
                have y1 := hob4.cell (i := 1) rfl
                have HWAY4 := Lib.hid hway4
                clear hown4 hg4 hat4 hlt4 hm4 hob4 hway4 HWAY HOW2
                go_wp2_with (at_mapUpdate; refine wpList_mapUpdate_is _ rfl _ _ _ 65 rfl 2 66 KQ Try.underlying65 M n g3 rfl gm2.out (by unfold maxLen; omega) who _ rfl rfl hkq.out ?_; intro w9 hm9 hg9 hs9)
                have HE := Lib.hid (HWAY4.out w9 hm9 hg9)
                clear hm9 hg9 hs9 HWAY4
                go_roundw
                case rel => exact ⟨_, j + 1, n + 1, b', ups act who none, addD act done who (bt + 1), ps, rfl, by go_num, by omega, by omega, by omega, Lib.hid (HFIN.out _ (HSV.out)), Lib.hid (HE.out.off)⟩
                case measure => simp [intOf]; omega
            · have hsv : stepP ⟨bk, act, done⟩ ⟨3, who, at_, oa, oc, ol⟩ = ⟨b', ups act who none, done⟩ := by rw [HST.out, if_neg hv]
              have HSV := Lib.hid hsv
              have hv' : (ov == 0) = false := by simpa using hv
              clear hsv HST HPV
              obtain ⟨gn1, hgn2, hgn3⟩ := HT3.out.nil
              have gn2 := Lib.hid hgn2
              have HGN3 := Lib.hid hgn3
              clear hgn2 hgn3
              go_wp2_with (at_mapUpdate; refine wpList_mapUpdate_is _ rfl _ _ _ 65 rfl 2 66 KQ Try.underlying65 M n gn1 rfl gn2.out (by unfold maxLen; omega) who _ rfl rfl hkq.out ?_; intro w9 hm9 hg9 hs9)
              have HE := Lib.hid (HGN3.out who w9 hm9 hg9)
              clear hm9 hg9 hs9 HGN3
              go_roundw
              case rel => exact ⟨_, j + 1, n + 1, b', ups act who none, done, ps, rfl, by go_num, by omega, by omega, by omega, Lib.hid (HFIN.out _ (HSV.out)), Lib.hid (HE.out.off)⟩
              case measure => simp [intOf]; omega
        by_cases hk4 : ok = 4
        · as_aux_lemma =>
            subst hk4
            go_wp2_with (at_lookup; refine wpList_lookup_is _ rfl _ _ 65 rfl 2 66 KQ Try.underlying65 (Try.zeroD _) M n g1 rfl HG1.out who rfl hkq.out pv HLK.out ?_)
            rw [HW1.out, HOB.out]
            have y1 := HT2.out.2.1.cell (i := 1) rfl
            have y3 := HT2.out.2.1.cell (i := 3) rfl
            clear z0 z1 z2 z3 HW1 HOB HG1 HLK
            refine (pq_drop who HT2.out HI.out.ok (by omega)).mono ?_
            rintro e w3 ⟨rfl, ht3⟩
            have HT3 := Lib.hid ht3
            have y1 := ht3.2.1.cell (i := 1) rfl
            have HSV : Hid (stepP ⟨bk, act, done⟩ ⟨4, who, at_, oa, oc, ol⟩ = ⟨(dropB bk who).2, ups act who none, done⟩) := Lib.hid (by unfold stepP; simp)
            generalize (dropB bk who).2 = b' at *
            generalize (dropB bk who).1 = ov at *
            clear ht3 HT2 HI
            obtain ⟨gn1, hgn2, hgn3⟩ := HT3.out.nil
            have gn2 := Lib.hid hgn2
            have HGN3 := Lib.hid hgn3
            clear hgn2 hgn3
            go_wp2_with (at_mapUpdate; refine wpList_mapUpdate_is _ rfl _ _ _ 65 rfl 2 66 KQ Try.underlying65 M n gn1 rfl gn2.out (by unfold maxLen; omega) who _ rfl rfl hkq.out ?_; intro w9 hm9 hg9 hs9)
            have HE := Lib.hid (HGN3.out who w9 hm9 hg9)
            clear hm9 hg9 hs9 HGN3
            go_roundw
            case rel => exact ⟨_, j + 1, n + 1, b', ups act who none, done, ps, rfl, by go_num, by omega, by omega, by omega, Lib.hid (HFIN.out _ (HSV.out)), Lib.hid (HE.out.off)⟩
            case measure => simp [intOf]; omega
        have hq0 : (ok == 0) = false := by simpa using hk0
        have hq1 : (ok == 1) = false := by simpa using hk1
        have hq2 : (ok == 2) = false := by simpa using hk2
        have hq3 : (ok == 3) = false := by simpa using hk3
        have hq4 : (ok == 4) = false := by simpa using hk4
        as_aux_lemma =>
          have HSV : Hid (stepP ⟨bk, act, done⟩ ⟨ok, who, at_, oa, oc, ol⟩ = ⟨bk, act, done⟩) := Lib.hid (by unfold stepP; simp only [if_neg hk0, if_neg hk1, if_neg hk2, if_neg hk3, if_neg hk4])
          clear hk0 hk1 hk2 hk3 hk4
          go_wp2_with (at_lookup; refine wpList_lookup_is _ rfl _ _ 65 rfl 2 66 KQ Try.underlying65 (Try.zeroD _) M n g1 rfl HG1.out who rfl hkq.out pv HLK.out ?_)
          rw [HW1.out]
          go_roundw
          case rel => exact ⟨_, j + 1, n, bk, act, done, ps, rfl, by go_num, by omega, by omega, by omega, Lib.hid (HFIN.out _ (HSV.out)), Lib.hid (HT2.out.off)⟩
          case measure => simp [intOf]; omega
      · have hlh' : ¬ (j : Int) < 120 := by omega
        obtain rfl : j = 120 := by omega
        go_wp2_with fail
        rw [← HQ.out]
        unfold PlayPost
        rw [HS.out, HM.out]
        exact ⟨dv, ps, n, by rfl, HT.out⟩
    · have hlt' : ¬ (j : Int) < m := by omega
      have HE : Hid (playS os 120 = ⟨bk, act, done⟩) := Lib.hid (by
        rcases playS_end (os := os) (j := j) (by have := HL.out; omega) with h | h
        · rw [← h, HS.out]
        · omega)
      go_wp2_with fail
      rw [← HQ.out]
      unfold PlayPost
      rw [HE.out, HM.out]
      exact ⟨dv, ps, n, by rfl, HT.out⟩
end Go.Proofs.Ytaonfacbmolklaa

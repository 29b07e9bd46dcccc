/- The texts G10, G11, G12, G13, G14, G15, G16, G17, G20 of this seat, one behind the other. Conditions: each says its own. -/
import Derived.Laws.EntriesVeiled
import Derived.Deep.RegionLawGrows
import Derived.Test.YtoakloicjlfaaaaM2

/- Layer 14: the program's find: the place of a number in a row that rises. Conditions: the row is there and rises. -/
namespace Go.Proofs.Ytoakloicjlfaaaa
open Go.RowKit
set_option linter.unusedSimpArgs false
set_option linter.unusedVariables false
set_option maxRecDepth 100000

/-- Each number is less than those behind it. -/
def RiseI (l : List Int) : Prop := ∀ (i j : Nat) x y, i < j → l[i]? = some x → l[j]? = some y → x < y
def posI (l : List Int) (id : Int) : Nat := (l.takeWhile (fun x => decide (x < id))).length
def hasI (l : List Int) (id : Int) : Bool := decide (l[posI l id]? = some id)
theorem posI_eq {l : List Int} {id : Int} {r : Nat} (hr : r ≤ l.length) (h1 : ∀ (i : Nat) x, i < r → l[i]? = some x → x < id) (h2 : ∀ x, l[r]? = some x → ¬ x < id) : posI l id = r := by
  unfold posI
  induction l generalizing r with
  | nil => simp at hr; simp [hr]
  | cons a l ih =>
    cases r with
    | zero =>
      have := h2 a rfl
      simp [List.takeWhile_cons, this]
    | succ r =>
      have h0 := h1 0 a (by omega) rfl
      rw [List.takeWhile_cons, if_pos (by simpa using h0), List.length_cons, ih (by simpa using hr) (fun i x hi hx => h1 (i + 1) x (by omega) (by simpa using hx)) (fun x hx => h2 x (by simpa using hx))]
theorem posI_le (l : List Int) (id : Int) : posI l id ≤ l.length := by
  unfold posI
  exact (List.takeWhile_sublist _).length_le

set_option maxHeartbeats 4000000 in
theorem nodeId_any (n : Nt) (cs : List Value) (B : Nat) (w : World) (h : IsN B w cs n) :
    Calls Try.prog 49 #[.agg cs.toArray] w fun e w' => e = .returned (.int .i64 n.id) ∧ Below w.heap.size w w' := by
  obtain ⟨la, lc, ka, kc, va, vc, rfl, _, _, _, _⟩ := h
  show Calls Try.prog 49 #[.agg #[.int .i64 n.id, .slice la n.labels.length lc, .slice ka n.keys.length kc, .slice va n.vals.length vc]] w _
  obtain ⟨w0, hw0⟩ : ∃ w0, w.alloc (.cells #[.int .i64 n.id, .slice la n.labels.length lc, .slice ka n.keys.length kc, .slice va n.vals.length vc] 38) = w0 := ⟨_, rfl⟩
  have hbx : Block w0 w.heap.size [.int .i64 n.id, .slice la n.labels.length lc, .slice ka n.keys.length kc, .slice va n.vals.length vc] 38 := by rw [← hw0]; exact Block.new w _ _
  have hb0 : Below w.heap.size w w0 := by rw [← hw0]; exact (Below.refl _ _).alloc (Nat.le_refl _) _
  have c0 := hbx.cell (i := 0) rfl
  have HW0 := Lib.hid hw0
  clear hw0
  go_enter Try.func49, Try.ntmps49
  go_wp2_with fail
  rw [HW0.out]
  go_wp2_with fail
  go_ret
  exact ⟨rfl, hb0⟩
set_option maxHeartbeats 4000000 in
theorem findNode1_any (n : Nt) (id : Int) (cs : List Value) (B bx : Nat) (w : World) (h : IsN B w cs n) (hB : B ≤ w.heap.size) (hc : w.cell? ⟨bx, 0, none⟩ = some (.func (.func 49) #[] #[])) (hbx : bx < w.heap.size) :
    Calls Try.prog 73 #[.agg cs.toArray, .int .i64 id, .pointer (some ⟨bx, 0, none⟩)] w fun e w' => e = .returned (.int .i64 (cmpI n.id id)) ∧ Below w.heap.size w w' := by
  have h0 := h
  obtain ⟨la, lc, ka, kc, va, vc, rfl, _, _, _, _⟩ := h
  show Calls Try.prog 73 #[.agg #[.int .i64 n.id, .slice la n.labels.length lc, .slice ka n.keys.length kc, .slice va n.vals.length vc], .int .i64 id, .pointer (some ⟨bx, 0, none⟩)] w _
  obtain ⟨w0, hw0⟩ : ∃ w0, w.alloc (.cells #[.int .i64 n.id, .slice la n.labels.length lc, .slice ka n.keys.length kc, .slice va n.vals.length vc] 38) = w0 := ⟨_, rfl⟩
  have hblk : Block w0 w.heap.size [.int .i64 n.id, .slice la n.labels.length lc, .slice ka n.keys.length kc, .slice va n.vals.length vc] 38 := by rw [← hw0]; exact Block.new w _ _
  have hb0 : Below w.heap.size w w0 := by rw [← hw0]; exact (Below.refl _ _).alloc (Nat.le_refl _) _
  have hf0 : w0.cell? ⟨bx, 0, none⟩ = some (.func (.func 49) #[] #[]) := by rw [hb0.cell hbx]; exact hc
  have c0 := hblk.cell (i := 0) rfl
  have c1 := hblk.cell (i := 1) rfl
  have c2 := hblk.cell (i := 2) rfl
  have c3 := hblk.cell (i := 3) rfl
  have HI := Lib.hid (nodeId_any n _ B w0 (h0.below hb0 hB))
  have HB0 := Lib.hid hb0
  have HW0 := Lib.hid hw0
  clear hw0 h0 hb0
  go_enter Try.func73, Try.ntmps73
  go_wp2_with fail
  rw [HW0.out]
  go_at_call 49
  refine HI.out.mono ?_
  rintro e w1 ⟨rfl, hb1⟩
  have HB1 := Lib.hid (HB0.out.trans (hb1.mono HB0.out.size))
  clear hb1
  have HC := Lib.hid (cmpL_any n.id id w1)
  go_wp2_with fail
  refine HC.out.mono ?_
  rintro e w2 ⟨rfl, rfl⟩
  go_wp2_with fail
  go_ret
  exact ⟨rfl, HB1.out⟩
set_option maxHeartbeats 8000000 in
theorem bsearchNode_any (l : List Nt) (id : Int) (a : Option Addr) (c B bx : Nat) (w : World) (h : RowR (IsN B w) 4 B w a l) (hB : B ≤ w.heap.size) (hc : w.cell? ⟨bx, 0, none⟩ = some (.func (.func 49) #[] #[])) (hbx : bx < w.heap.size) (hl : l.length ≤ 1099511627776) (hs : RiseI (l.map (·.id))) :
    Calls Try.prog 72 #[.slice a l.length c, .int .i64 id, .func (.func 73) #[] #[.pointer (some ⟨bx, 0, none⟩)]] w fun e w' =>
      e = .returned (.tuple #[.int .i64 (posI (l.map (·.id)) id : Nat), .bool (hasI (l.map (·.id)) id)]) ∧ Below w.heap.size w w' := by
  have HR := Lib.hid h
  have HS := Lib.hid hs
  have HF := Lib.hid (fun (w' : World) (hb : Below w.heap.size w w') (n : Nt) (cs : List Value) (hn : IsN B w cs n) => findNode1_any n id cs B bx w' (hn.below hb hB) (Nat.le_trans hB hb.size) ((hb.cell hbx).trans hc) (Nat.lt_of_lt_of_le hbx hb.size))
  have HML : ∀ (i : Nat) x, (l.map (·.id))[i]? = some x → ∃ y, l[i]? = some y ∧ y.id = x := fun i x hx => by
    rw [List.getElem?_map] at hx
    obtain ⟨y, hy, rfl⟩ := Option.map_eq_some_iff.1 hx
    exact ⟨y, hy, rfl⟩
  have HM := Lib.hid HML
  clear h hs hc HML
  obtain ⟨n, hn⟩ : ∃ n, l.length = n := ⟨_, rfl⟩
  rw [hn] at hl ⊢
  have HN := Lib.hid hn
  clear hn
  obtain ⟨ids, hids⟩ : ∃ ids, l.map (·.id) = ids := ⟨_, rfl⟩
  rw [hids] at HS HM ⊢
  have HIN : Hid (ids.length = n) := Lib.hid (by rw [← hids, List.length_map]; exact HN.out)
  have HIA : Hid (∀ (j : Nat) x, l[j]? = some x → ids[j]? = some x.id) := Lib.hid (fun j x hx => by rw [← hids, List.getElem?_map, hx]; rfl)
  clear hids
  go_enter Try.func72, Try.ntmps72
  go_wp2_with fail
  go_loopw [9, 10] (fun lv hv wr => ∃ (lo hi : Nat), lv = .int .i64 lo ∧ hv = .int .i64 hi ∧ lo ≤ hi ∧ hi ≤ n ∧ Hid (∀ (i : Nat) x, i < lo → ids[i]? = some x → x < id) ∧ Hid (∀ (i : Nat) x, hi ≤ i → ids[i]? = some x → id ≤ x) ∧ Hid (Below w.heap.size w wr)) (fun lv hv _ => (intOf hv).toNat - (intOf lv).toNat)
  case atStart => exact ⟨0, n, rfl, rfl, Nat.zero_le _, Nat.le_refl _, Lib.hid (fun _ _ h => absurd h (Nat.not_lt_zero _)), Lib.hid (fun i x h hx => by have := (List.getElem?_eq_some_iff.1 hx).1; have := HIN.out; omega), Lib.hid (Below.refl _ _)⟩
  case round =>
    obtain ⟨lo, hi, rfl, rfl, hlo, hhi, HLT, HGE, HBR⟩ := hrel
    by_cases hlt : lo < hi
    · have hlt' : (lo : Int) < hi := by omega
      obtain ⟨m, hm⟩ : ∃ m, (lo + hi) / 2 = m := ⟨_, rfl⟩
      have hmn : m < n := by omega
      have hmI : ((lo : Int) + hi) / 2 = m := by omega
      obtain ⟨x, hx⟩ : ∃ x, l[m]? = some x := get_some (by have := HN.out; omega)
      obtain ⟨b, off, cs, e1, hb, _, hcs, hcell⟩ := HR.out.at hx
      have HFX := Lib.hid (HF.out wr HBR.out x cs hcs)
      obtain ⟨la, lc, ka, kc, va, vc, rfl, _, _, _, _⟩ := hcs
      have HX := Lib.hid (HIA.out m x hx)
      subst e1
      have k0 := (HBR.out.cell (Nat.lt_of_lt_of_le hb hB)).trans (hcell 0 _ rfl)
      have k1 := (HBR.out.cell (Nat.lt_of_lt_of_le hb hB)).trans (hcell 1 _ rfl)
      have k2 := (HBR.out.cell (Nat.lt_of_lt_of_le hb hB)).trans (hcell 2 _ rfl)
      have k3 := (HBR.out.cell (Nat.lt_of_lt_of_le hb hB)).trans (hcell 3 _ rfl)
      rw [Nat.add_zero] at k0
      clear hx hcell hb
      generalize x.id = i0 at *
      generalize x.labels.length = nl at *
      generalize x.keys.length = nk at *
      generalize x.vals.length = nv at *
      go_wp2_with fail
      go_at_call 73
      refine HFX.out.mono ?_
      rintro e w1 ⟨rfl, hb1⟩
      have HB1 := Lib.hid (HBR.out.trans (hb1.mono HBR.out.size))
      clear hb1
      by_cases hls : i0 < id
      · have hci : cmpI i0 id = -1 := by unfold cmpI; rw [if_pos hls]
        rw [hci]
        have HLS := Lib.hid hls
        clear hls hci
        go_wp2_with fail
        go_roundw
        case rel =>
          refine ⟨m + 1, hi, by go_num, rfl, by omega, by omega, Lib.hid (fun i y hi2 hy => ?_), HGE, HB1⟩
          by_cases him : i = m
          · subst him
            rw [HX.out] at hy
            cases hy
            exact HLS.out
          · have h1 := HS.out i m y i0 (by omega) hy HX.out
            have h2 := HLS.out
            omega
        case measure => simp [intOf]; omega
      · obtain ⟨q, hq, hq0⟩ : ∃ q, cmpI i0 id = q ∧ ¬ q < 0 := ⟨_, rfl, by unfold cmpI; rw [if_neg hls]; split <;> omega⟩
        rw [hq]
        have HLS := Lib.hid hls
        clear hls hq
        go_wp2_with fail
        go_roundw
        case rel =>
          refine ⟨lo, m, rfl, rfl, by omega, by omega, HLT, Lib.hid (fun i y hi2 hy => ?_), HB1⟩
          by_cases him : i = m
          · subst him
            rw [HX.out] at hy
            cases hy
            exact HLS.out
          · have h1 := HS.out m i i0 y (by omega) HX.out hy
            have h2 := HLS.out
            omega
        case measure => simp [intOf]; omega
    · have hlt' : ¬ (lo : Int) < hi := by omega
      have hlh : lo = hi := by omega
      have HP : Hid (posI ids id = lo) := Lib.hid (posI_eq (by have := HIN.out; omega) HLT.out (fun x hx => by have := HGE.out lo x (by omega) hx; omega))
      have HT : Hid (hasI ids id = decide (ids[lo]? = some id)) := Lib.hid (by unfold hasI; rw [HP.out])
      clear hlh hlt HLT HGE
      by_cases hln : lo < n
      · have hln' : (lo : Int) < n := by omega
        obtain ⟨x, hx⟩ : ∃ x, l[lo]? = some x := get_some (by have := HN.out; omega)
        obtain ⟨b, off, cs, e1, hb, _, hcs, hcell⟩ := HR.out.at hx
        have HFX := Lib.hid (HF.out wr HBR.out x cs hcs)
        obtain ⟨la, lc, ka, kc, va, vc, rfl, _, _, _, _⟩ := hcs
        have HX := Lib.hid (HIA.out lo x hx)
        rw [HX.out] at HT
        subst e1
        have k0 := (HBR.out.cell (Nat.lt_of_lt_of_le hb hB)).trans (hcell 0 _ rfl)
        have k1 := (HBR.out.cell (Nat.lt_of_lt_of_le hb hB)).trans (hcell 1 _ rfl)
        have k2 := (HBR.out.cell (Nat.lt_of_lt_of_le hb hB)).trans (hcell 2 _ rfl)
        have k3 := (HBR.out.cell (Nat.lt_of_lt_of_le hb hB)).trans (hcell 3 _ rfl)
        rw [Nat.add_zero] at k0
        clear hx hcell hb
        generalize x.id = i0 at *
        generalize x.labels.length = nl at *
        generalize x.keys.length = nk at *
        generalize x.vals.length = nv at *
        by_cases hxk : i0 = id
        · have hci : cmpI i0 id = 0 := by unfold cmpI; rw [if_neg (by omega), if_neg (by omega)]
          rw [hci] at HFX
          rw [decide_eq_true (congrArg some hxk)] at HT
          clear hci hxk
          go_wp2_with fail
          go_at_call 73
          refine HFX.out.mono ?_
          rintro e w1 ⟨rfl, hb1⟩
          have HB1 := Lib.hid (HBR.out.trans (hb1.mono HBR.out.size))
          clear hb1
          go_wp2_with fail
          go_ret2
          exact ⟨by rw [HP.out, HT.out]; rfl, HB1.out⟩
        · obtain ⟨q, hq, hq0⟩ : ∃ q, cmpI i0 id = q ∧ (q == 0) = false := ⟨_, rfl, by unfold cmpI; split; rfl; rw [if_pos (by omega)]; rfl⟩
          rw [hq] at HFX
          rw [decide_eq_false (fun h => hxk (by injection h))] at HT
          clear hq hxk
          go_wp2_with fail
          go_at_call 73
          refine HFX.out.mono ?_
          rintro e w1 ⟨rfl, hb1⟩
          have HB1 := Lib.hid (HBR.out.trans (hb1.mono HBR.out.size))
          clear hb1
          go_wp2_with fail
          go_ret2
          exact ⟨by rw [HP.out, HT.out]; rfl, HB1.out⟩
      · have hln' : ¬ (lo : Int) < n := by omega
        have hno : ids[lo]? = none := List.getElem?_eq_none (by have := HIN.out; omega)
        rw [hno, decide_eq_false (by simp)] at HT
        clear hno
        go_wp2_with fail
        go_ret2
        exact ⟨by rw [HP.out, HT.out]; rfl, HBR.out⟩
set_option maxHeartbeats 4000000 in
theorem findNode_any (l : List Nt) (id : Int) (a : Option Addr) (c B : Nat) (w : World) (h : RowR (IsN B w) 4 B w a l) (hB : B ≤ w.heap.size) (hl : l.length ≤ 1099511627776) (hs : RiseI (l.map (·.id))) :
    Calls Try.prog 48 #[.slice a l.length c, .int .i64 id, .func (.func 49) #[] #[]] w fun e w' =>
      e = .returned (.tuple #[.int .i64 (posI (l.map (·.id)) id : Nat), .bool (hasI (l.map (·.id)) id)]) ∧ Below w.heap.size w w' := by
  obtain ⟨w0, hw0⟩ : ∃ w0, w.alloc (.cells #[.func (.func 49) #[] #[]] 82) = w0 := ⟨_, rfl⟩
  have hblk : Block w0 w.heap.size [.func (.func 49) #[] #[]] 82 := by rw [← hw0]; exact Block.new w _ _
  have hb0 : Below w.heap.size w w0 := by rw [← hw0]; exact (Below.refl _ _).alloc (Nat.le_refl _) _
  have HI := Lib.hid (bsearchNode_any l id a c B w.heap.size w0 (h.below hb0 hB (fun _ _ h => h.below hb0 hB)) (Nat.le_trans hB hb0.size) (hblk.cell rfl) hblk.lt hl hs)
  have HB0 := Lib.hid hb0
  have HW0 := Lib.hid hw0
  clear hw0 h hs hb0 hblk
  go_enter Try.func48, Try.ntmps48
  go_wp2_with fail
  rw [HW0.out]
  go_wp2_with fail
  refine HI.out.mono ?_
  rintro e w1 ⟨rfl, hb1⟩
  have HB1 := Lib.hid (HB0.out.trans (hb1.mono HB0.out.size))
  clear hb1
  go_wp2_with fail
  go_ret2
  exact ⟨rfl, HB1.out⟩

set_option maxHeartbeats 4000000 in
theorem edgeId_any (n : Et) (cs : List Value) (B : Nat) (w : World) (h : IsE B w cs n) :
    Calls Try.prog 56 #[.agg cs.toArray] w fun e w' => e = .returned (.int .i64 n.id) ∧ Below w.heap.size w w' := by
  obtain ⟨ka, kc, va, vc, rfl, _, _⟩ := h
  show Calls Try.prog 56 #[.agg #[.int .i64 n.id, .int .i64 n.src, .int .i64 n.dst, .string n.ty, .slice ka n.keys.length kc, .slice va n.vals.length vc]] w _
  obtain ⟨w0, hw0⟩ : ∃ w0, w.alloc (.cells #[.int .i64 n.id, .int .i64 n.src, .int .i64 n.dst, .string n.ty, .slice ka n.keys.length kc, .slice va n.vals.length vc] 40) = w0 := ⟨_, rfl⟩
  have hbx : Block w0 w.heap.size [.int .i64 n.id, .int .i64 n.src, .int .i64 n.dst, .string n.ty, .slice ka n.keys.length kc, .slice va n.vals.length vc] 40 := by rw [← hw0]; exact Block.new w _ _
  have hb0 : Below w.heap.size w w0 := by rw [← hw0]; exact (Below.refl _ _).alloc (Nat.le_refl _) _
  have c0 := hbx.cell (i := 0) rfl
  have HW0 := Lib.hid hw0
  clear hw0
  go_enter Try.func56, Try.ntmps56
  go_wp2_with fail
  rw [HW0.out]
  go_wp2_with fail
  go_ret
  exact ⟨rfl, hb0⟩
set_option maxHeartbeats 4000000 in
theorem findEdge1_any (n : Et) (id : Int) (cs : List Value) (B bx : Nat) (w : World) (h : IsE B w cs n) (hB : B ≤ w.heap.size) (hc : w.cell? ⟨bx, 0, none⟩ = some (.func (.func 56) #[] #[])) (hbx : bx < w.heap.size) :
    Calls Try.prog 78 #[.agg cs.toArray, .int .i64 id, .pointer (some ⟨bx, 0, none⟩)] w fun e w' => e = .returned (.int .i64 (cmpI n.id id)) ∧ Below w.heap.size w w' := by
  have h0 := h
  obtain ⟨ka, kc, va, vc, rfl, _, _⟩ := h
  show Calls Try.prog 78 #[.agg #[.int .i64 n.id, .int .i64 n.src, .int .i64 n.dst, .string n.ty, .slice ka n.keys.length kc, .slice va n.vals.length vc], .int .i64 id, .pointer (some ⟨bx, 0, none⟩)] w _
  obtain ⟨w0, hw0⟩ : ∃ w0, w.alloc (.cells #[.int .i64 n.id, .int .i64 n.src, .int .i64 n.dst, .string n.ty, .slice ka n.keys.length kc, .slice va n.vals.length vc] 40) = w0 := ⟨_, rfl⟩
  have hblk : Block w0 w.heap.size [.int .i64 n.id, .int .i64 n.src, .int .i64 n.dst, .string n.ty, .slice ka n.keys.length kc, .slice va n.vals.length vc] 40 := by rw [← hw0]; exact Block.new w _ _
  have hb0 : Below w.heap.size w w0 := by rw [← hw0]; exact (Below.refl _ _).alloc (Nat.le_refl _) _
  have hf0 : w0.cell? ⟨bx, 0, none⟩ = some (.func (.func 56) #[] #[]) := by rw [hb0.cell hbx]; exact hc
  have c0 := hblk.cell (i := 0) rfl
  have c1 := hblk.cell (i := 1) rfl
  have c2 := hblk.cell (i := 2) rfl
  have c3 := hblk.cell (i := 3) rfl
  have c4 := hblk.cell (i := 4) rfl
  have c5 := hblk.cell (i := 5) rfl
  have HI := Lib.hid (edgeId_any n _ B w0 (h0.below hb0 hB))
  have HB0 := Lib.hid hb0
  have HW0 := Lib.hid hw0
  clear hw0 h0 hb0
  go_enter Try.func78, Try.ntmps78
  go_wp2_with fail
  rw [HW0.out]
  go_at_call 56
  refine HI.out.mono ?_
  rintro e w1 ⟨rfl, hb1⟩
  have HB1 := Lib.hid (HB0.out.trans (hb1.mono HB0.out.size))
  clear hb1
  have HC := Lib.hid (cmpL_any n.id id w1)
  go_wp2_with fail
  refine HC.out.mono ?_
  rintro e w2 ⟨rfl, rfl⟩
  go_wp2_with fail
  go_ret
  exact ⟨rfl, HB1.out⟩
set_option maxHeartbeats 8000000 in
theorem bsearchEdge_any (l : List Et) (id : Int) (a : Option Addr) (c B bx : Nat) (w : World) (h : RowR (IsE B w) 6 B w a l) (hB : B ≤ w.heap.size) (hc : w.cell? ⟨bx, 0, none⟩ = some (.func (.func 56) #[] #[])) (hbx : bx < w.heap.size) (hl : l.length ≤ 1099511627776) (hs : RiseI (l.map (·.id))) :
    Calls Try.prog 77 #[.slice a l.length c, .int .i64 id, .func (.func 78) #[] #[.pointer (some ⟨bx, 0, none⟩)]] w fun e w' =>
      e = .returned (.tuple #[.int .i64 (posI (l.map (·.id)) id : Nat), .bool (hasI (l.map (·.id)) id)]) ∧ Below w.heap.size w w' := by
  have HR := Lib.hid h
  have HS := Lib.hid hs
  have HF := Lib.hid (fun (w' : World) (hb : Below w.heap.size w w') (n : Et) (cs : List Value) (hn : IsE B w cs n) => findEdge1_any n id cs B bx w' (hn.below hb hB) (Nat.le_trans hB hb.size) ((hb.cell hbx).trans hc) (Nat.lt_of_lt_of_le hbx hb.size))
  have HML : ∀ (i : Nat) x, (l.map (·.id))[i]? = some x → ∃ y, l[i]? = some y ∧ y.id = x := fun i x hx => by
    rw [List.getElem?_map] at hx
    obtain ⟨y, hy, rfl⟩ := Option.map_eq_some_iff.1 hx
    exact ⟨y, hy, rfl⟩
  have HM := Lib.hid HML
  clear h hs hc HML
  obtain ⟨n, hn⟩ : ∃ n, l.length = n := ⟨_, rfl⟩
  rw [hn] at hl ⊢
  have HN := Lib.hid hn
  clear hn
  obtain ⟨ids, hids⟩ : ∃ ids, l.map (·.id) = ids := ⟨_, rfl⟩
  rw [hids] at HS HM ⊢
  have HIN : Hid (ids.length = n) := Lib.hid (by rw [← hids, List.length_map]; exact HN.out)
  have HIA : Hid (∀ (j : Nat) x, l[j]? = some x → ids[j]? = some x.id) := Lib.hid (fun j x hx => by rw [← hids, List.getElem?_map, hx]; rfl)
  clear hids
  go_enter Try.func77, Try.ntmps77
  go_wp2_with fail
  go_loopw [9, 10] (fun lv hv wr => ∃ (lo hi : Nat), lv = .int .i64 lo ∧ hv = .int .i64 hi ∧ lo ≤ hi ∧ hi ≤ n ∧ Hid (∀ (i : Nat) x, i < lo → ids[i]? = some x → x < id) ∧ Hid (∀ (i : Nat) x, hi ≤ i → ids[i]? = some x → id ≤ x) ∧ Hid (Below w.heap.size w wr)) (fun lv hv _ => (intOf hv).toNat - (intOf lv).toNat)
  case atStart => exact ⟨0, n, rfl, rfl, Nat.zero_le _, Nat.le_refl _, Lib.hid (fun _ _ h => absurd h (Nat.not_lt_zero _)), Lib.hid (fun i x h hx => by have := (List.getElem?_eq_some_iff.1 hx).1; have := HIN.out; omega), Lib.hid (Below.refl _ _)⟩
  case round =>
    obtain ⟨lo, hi, rfl, rfl, hlo, hhi, HLT, HGE, HBR⟩ := hrel
    by_cases hlt : lo < hi
    · have hlt' : (lo : Int) < hi := by omega
      obtain ⟨m, hm⟩ : ∃ m, (lo + hi) / 2 = m := ⟨_, rfl⟩
      have hmn : m < n := by omega
      have hmI : ((lo : Int) + hi) / 2 = m := by omega
      obtain ⟨x, hx⟩ : ∃ x, l[m]? = some x := get_some (by have := HN.out; omega)
      obtain ⟨b, off, cs, e1, hb, _, hcs, hcell⟩ := HR.out.at hx
      have HFX := Lib.hid (HF.out wr HBR.out x cs hcs)
      obtain ⟨ka, kc, va, vc, rfl, _, _⟩ := hcs
      have HX := Lib.hid (HIA.out m x hx)
      subst e1
      have k0 := (HBR.out.cell (Nat.lt_of_lt_of_le hb hB)).trans (hcell 0 _ rfl)
      have k1 := (HBR.out.cell (Nat.lt_of_lt_of_le hb hB)).trans (hcell 1 _ rfl)
      have k2 := (HBR.out.cell (Nat.lt_of_lt_of_le hb hB)).trans (hcell 2 _ rfl)
      have k3 := (HBR.out.cell (Nat.lt_of_lt_of_le hb hB)).trans (hcell 3 _ rfl)
      have k4 := (HBR.out.cell (Nat.lt_of_lt_of_le hb hB)).trans (hcell 4 _ rfl)
      have k5 := (HBR.out.cell (Nat.lt_of_lt_of_le hb hB)).trans (hcell 5 _ rfl)
      rw [Nat.add_zero] at k0
      clear hx hcell hb
      generalize x.id = i0 at *
      generalize x.src = i1 at *
      generalize x.dst = i2 at *
      generalize x.ty = i3 at *
      generalize x.keys.length = nk at *
      generalize x.vals.length = nv at *
      go_wp2_with fail
      go_at_call 78
      refine HFX.out.mono ?_
      rintro e w1 ⟨rfl, hb1⟩
      have HB1 := Lib.hid (HBR.out.trans (hb1.mono HBR.out.size))
      clear hb1
      by_cases hls : i0 < id
      · have hci : cmpI i0 id = -1 := by unfold cmpI; rw [if_pos hls]
        rw [hci]
        have HLS := Lib.hid hls
        clear hls hci
        go_wp2_with fail
        go_roundw
        case rel =>
          refine ⟨m + 1, hi, by go_num, rfl, by omega, by omega, Lib.hid (fun i y hi2 hy => ?_), HGE, HB1⟩
          by_cases him : i = m
          · subst him
            rw [HX.out] at hy
            cases hy
            exact HLS.out
          · have h1 := HS.out i m y i0 (by omega) hy HX.out
            have h2 := HLS.out
            omega
        case measure => simp [intOf]; omega
      · obtain ⟨q, hq, hq0⟩ : ∃ q, cmpI i0 id = q ∧ ¬ q < 0 := ⟨_, rfl, by unfold cmpI; rw [if_neg hls]; split <;> omega⟩
        rw [hq]
        have HLS := Lib.hid hls
        clear hls hq
        go_wp2_with fail
        go_roundw
        case rel =>
          refine ⟨lo, m, rfl, rfl, by omega, by omega, HLT, Lib.hid (fun i y hi2 hy => ?_), HB1⟩
          by_cases him : i = m
          · subst him
            rw [HX.out] at hy
            cases hy
            exact HLS.out
          · have h1 := HS.out m i i0 y (by omega) HX.out hy
            have h2 := HLS.out
            omega
        case measure => simp [intOf]; omega
    · have hlt' : ¬ (lo : Int) < hi := by omega
      have hlh : lo = hi := by omega
      have HP : Hid (posI ids id = lo) := Lib.hid (posI_eq (by have := HIN.out; omega) HLT.out (fun x hx => by have := HGE.out lo x (by omega) hx; omega))
      have HT : Hid (hasI ids id = decide (ids[lo]? = some id)) := Lib.hid (by unfold hasI; rw [HP.out])
      clear hlh hlt HLT HGE
      by_cases hln : lo < n
      · have hln' : (lo : Int) < n := by omega
        obtain ⟨x, hx⟩ : ∃ x, l[lo]? = some x := get_some (by have := HN.out; omega)
        obtain ⟨b, off, cs, e1, hb, _, hcs, hcell⟩ := HR.out.at hx
        have HFX := Lib.hid (HF.out wr HBR.out x cs hcs)
        obtain ⟨ka, kc, va, vc, rfl, _, _⟩ := hcs
        have HX := Lib.hid (HIA.out lo x hx)
        rw [HX.out] at HT
        subst e1
        have k0 := (HBR.out.cell (Nat.lt_of_lt_of_le hb hB)).trans (hcell 0 _ rfl)
        have k1 := (HBR.out.cell (Nat.lt_of_lt_of_le hb hB)).trans (hcell 1 _ rfl)
        have k2 := (HBR.out.cell (Nat.lt_of_lt_of_le hb hB)).trans (hcell 2 _ rfl)
        have k3 := (HBR.out.cell (Nat.lt_of_lt_of_le hb hB)).trans (hcell 3 _ rfl)
        have k4 := (HBR.out.cell (Nat.lt_of_lt_of_le hb hB)).trans (hcell 4 _ rfl)
        have k5 := (HBR.out.cell (Nat.lt_of_lt_of_le hb hB)).trans (hcell 5 _ rfl)
        rw [Nat.add_zero] at k0
        clear hx hcell hb
        generalize x.id = i0 at *
        generalize x.src = i1 at *
        generalize x.dst = i2 at *
        generalize x.ty = i3 at *
        generalize x.keys.length = nk at *
        generalize x.vals.length = nv at *
        by_cases hxk : i0 = id
        · have hci : cmpI i0 id = 0 := by unfold cmpI; rw [if_neg (by omega), if_neg (by omega)]
          rw [hci] at HFX
          rw [decide_eq_true (congrArg some hxk)] at HT
          clear hci hxk
          go_wp2_with fail
          go_at_call 78
          refine HFX.out.mono ?_
          rintro e w1 ⟨rfl, hb1⟩
          have HB1 := Lib.hid (HBR.out.trans (hb1.mono HBR.out.size))
          clear hb1
          go_wp2_with fail
          go_ret2
          exact ⟨by rw [HP.out, HT.out]; rfl, HB1.out⟩
        · obtain ⟨q, hq, hq0⟩ : ∃ q, cmpI i0 id = q ∧ (q == 0) = false := ⟨_, rfl, by unfold cmpI; split; rfl; rw [if_pos (by omega)]; rfl⟩
          rw [hq] at HFX
          rw [decide_eq_false (fun h => hxk (by injection h))] at HT
          clear hq hxk
          go_wp2_with fail
          go_at_call 78
          refine HFX.out.mono ?_
          rintro e w1 ⟨rfl, hb1⟩
          have HB1 := Lib.hid (HBR.out.trans (hb1.mono HBR.out.size))
          clear hb1
          go_wp2_with fail
          go_ret2
          exact ⟨by rw [HP.out, HT.out]; rfl, HB1.out⟩
      · have hln' : ¬ (lo : Int) < n := by omega
        have hno : ids[lo]? = none := List.getElem?_eq_none (by have := HIN.out; omega)
        rw [hno, decide_eq_false (by simp)] at HT
        clear hno
        go_wp2_with fail
        go_ret2
        exact ⟨by rw [HP.out, HT.out]; rfl, HBR.out⟩
set_option maxHeartbeats 4000000 in
theorem findEdge_any (l : List Et) (id : Int) (a : Option Addr) (c B : Nat) (w : World) (h : RowR (IsE B w) 6 B w a l) (hB : B ≤ w.heap.size) (hl : l.length ≤ 1099511627776) (hs : RiseI (l.map (·.id))) :
    Calls Try.prog 55 #[.slice a l.length c, .int .i64 id, .func (.func 56) #[] #[]] w fun e w' =>
      e = .returned (.tuple #[.int .i64 (posI (l.map (·.id)) id : Nat), .bool (hasI (l.map (·.id)) id)]) ∧ Below w.heap.size w w' := by
  obtain ⟨w0, hw0⟩ : ∃ w0, w.alloc (.cells #[.func (.func 56) #[] #[]] 88) = w0 := ⟨_, rfl⟩
  have hblk : Block w0 w.heap.size [.func (.func 56) #[] #[]] 88 := by rw [← hw0]; exact Block.new w _ _
  have hb0 : Below w.heap.size w w0 := by rw [← hw0]; exact (Below.refl _ _).alloc (Nat.le_refl _) _
  have HI := Lib.hid (bsearchEdge_any l id a c B w.heap.size w0 (h.below hb0 hB (fun _ _ h => h.below hb0 hB)) (Nat.le_trans hB hb0.size) (hblk.cell rfl) hblk.lt hl hs)
  have HB0 := Lib.hid hb0
  have HW0 := Lib.hid hw0
  clear hw0 h hs hb0 hblk
  go_enter Try.func55, Try.ntmps55
  go_wp2_with fail
  rw [HW0.out]
  go_wp2_with fail
  refine HI.out.mono ?_
  rintro e w1 ⟨rfl, hb1⟩
  have HB1 := Lib.hid (HB0.out.trans (hb1.mono HB0.out.size))
  clear hb1
  go_wp2_with fail
  go_ret2
  exact ⟨rfl, HB1.out⟩

theorem RiseI.lt {l : List Int} (h : RiseI l) {i j : Nat} {x y : Int} (hi : l[i]? = some x) (hj : l[j]? = some y) (hxy : x < y) : i < j := by
  rcases Nat.lt_trichotomy i j with h1 | h1 | h1
  · exact h1
  · subst h1; rw [hi] at hj; cases hj; omega
  · have := h j i y x h1 hj hi; omega
/-- In a row that rises the place is there just if the reference's is. -/
theorem hasI_idx {l : List Int} (h : RiseI l) (id : Int) : hasI l id = decide (0 ≤ idxOf l id) ∧ (hasI l id = true → idxOf l id = posI l id) := by
  by_cases hm : ∃ i : Nat, l[i]? = some id
  · obtain ⟨i, hi⟩ := hm
    have h1 : posI l id = i := posI_eq (Nat.le_of_lt (List.getElem?_eq_some_iff.1 hi).1) (fun j x hj hx => h j i x id hj hx hi) (fun x hx => by rw [hi] at hx; cases hx; omega)
    have h2 : idxOf l id = i := idxOf_some hi (fun j x hj hx => by have := h j i x id hj hx hi; omega)
    unfold hasI
    rw [h1, hi, h2]
    simp
  · have h2 : idxOf l id = -1 := idxOf_none (fun j x hx e => hm ⟨j, by rw [hx, e]⟩)
    have h3 : hasI l id = false := by
      unfold hasI
      exact decide_eq_false (fun e => hm ⟨_, e⟩)
    rw [h2, h3]
    simp
set_option maxHeartbeats 4000000 in
theorem has_any (g : Gt) (id : Int) (cs : List Value) (B : Nat) (w : World) (h : IsG B w cs g) (hB : B ≤ w.heap.size) (hl : g.nodes.length ≤ 1099511627776) (hs : RiseI (g.nodes.map (·.id))) :
    Calls Try.prog 54 #[.agg cs.toArray, .int .i64 id] w fun e w' => e = .returned (.bool (hasI (g.nodes.map (·.id)) id)) ∧ Below w.heap.size w w' := by
  obtain ⟨na, nc, ea, ec, rfl, hn, he, hN, hE⟩ := h
  show Calls Try.prog 54 #[.agg #[.slice na g.nodes.length nc, .slice ea g.edges.length ec], .int .i64 id] w _
  obtain ⟨w0, hw0⟩ : ∃ w0, w.alloc (.cells #[.slice na g.nodes.length nc, .slice ea g.edges.length ec] 25) = w0 := ⟨_, rfl⟩
  have hbx : Block w0 w.heap.size [.slice na g.nodes.length nc, .slice ea g.edges.length ec] 25 := by rw [← hw0]; exact Block.new w _ _
  have hb0 : Below w.heap.size w w0 := by rw [← hw0]; exact (Below.refl _ _).alloc (Nat.le_refl _) _
  have HI := Lib.hid (findNode_any g.nodes id na nc B w0 (hN.below hb0 hB (fun _ _ h => h.below hb0 hB)) (Nat.le_trans hB hb0.size) hl hs)
  have cg := hbx.cell (i := 0) rfl
  have HB0 := Lib.hid hb0
  have HW0 := Lib.hid hw0
  clear hw0 hN hE hs hb0 hbx hn he
  go_enter Try.func54, Try.ntmps54
  go_wp2_with fail
  rw [HW0.out]
  go_wp2_with fail
  refine HI.out.mono ?_
  rintro e w1 ⟨rfl, hb1⟩
  have HB1 := Lib.hid (HB0.out.trans (hb1.mono HB0.out.size))
  clear hb1
  go_wp2_with fail
  go_ret
  exact ⟨rfl, HB1.out⟩
end Go.Proofs.Ytoakloicjlfaaaa

/- Layer 14: rows of anything whose memory is its own; own nodes, edges, graphs. Conditions: none. -/
namespace Go.Proofs.Ytoakloicjlfaaaa
open Go.RowKit
set_option linter.unusedSimpArgs false
set_option linter.unusedVariables false

/-- What is said of an element hangs on its own blocks alone. -/
structure OwnElem {α : Type} (R : World → List Value → α → List Nat → Prop) (size : Nat) : Prop where
  same : ∀ {w w' : World} {cs : List Value} {x : α} {bs : List Nat}, R w cs x bs → (∀ b ∈ bs, w'.heap[b]? = w.heap[b]?) → R w' cs x bs
  len : ∀ {w : World} {cs : List Value} {x : α} {bs : List Nat}, R w cs x bs → cs.length = size
/-- From element n on the cells of a row hold those elements. -/
def IsRows {α : Type} (R : List Value → α → List Nat → Prop) (size : Nat) (cur : List Value) : Nat → List α → List Nat → Prop
  | _, [], bs => bs = []
  | n, t :: ts, bs => ∃ cs b1 b2, bs = b1 ++ b2 ∧ (∀ (j : Nat) v, cs[j]? = some v → cur[n * size + j]? = some v) ∧ R cs t b1 ∧ IsRows R size cur (n + 1) ts b2
section
variable {α : Type} {R : World → List Value → α → List Nat → Prop} {size : Nat}
theorem IsRows.same (hR : OwnElem R size) {w w' : World} {cur : List Value} (l : List α) : ∀ (n : Nat) (bs : List Nat), IsRows (R w) size cur n l bs → (∀ b ∈ bs, w'.heap[b]? = w.heap[b]?) → IsRows (R w') size cur n l bs := by
  induction l with
  | nil => intro n bs h _; exact h
  | cons u us ih =>
    intro n bs h hs
    obtain ⟨cs, b1, b2, h1, h2, h3, h4⟩ := h
    subst h1
    exact ⟨cs, b1, b2, rfl, h2, hR.same h3 (fun b hb => hs b (by simp [hb])), ih (n + 1) b2 h4 (fun b hb => hs b (by simp [hb]))⟩
theorem IsRows.cur (hR : OwnElem R size) {w : World} {cur cur' : List Value} (l : List α) : ∀ (n : Nat) (bs : List Nat), IsRows (R w) size cur n l bs → (∀ q, n * size ≤ q → q < (n + l.length) * size → cur'[q]? = cur[q]?) → IsRows (R w) size cur' n l bs := by
  induction l with
  | nil => intro n bs h _; exact h
  | cons u us ih =>
    intro n bs h hq
    obtain ⟨cs, b1, b2, h1, h2, h3, h4⟩ := h
    have e1 : (n + 1) * size = n * size + size := by rw [Nat.add_mul, Nat.one_mul]
    have e2 : (n + (u :: us).length) * size = (n + 1 + us.length) * size := by rw [show n + (u :: us).length = n + 1 + us.length from by simp; omega]
    have e3 : (n + 1) * size ≤ (n + 1 + us.length) * size := Nat.mul_le_mul_right _ (by omega)
    refine ⟨cs, b1, b2, h1, fun j v hv => ?_, h3, ih (n + 1) b2 h4 (fun q g1 g2 => hq q (by omega) (by omega))⟩
    have hj : j < size := by have := (List.getElem?_eq_some_iff.1 hv).1; have := hR.len h3; omega
    rw [hq (n * size + j) (by omega) (by omega)]
    exact h2 j v hv
theorem IsRows.snoc {w : World} {cur cs : List Value} {t : α} {b : List Nat} (ht : R w cs t b) (l : List α) : ∀ (n : Nat) (bs : List Nat), IsRows (R w) size cur n l bs →
    (∀ (j : Nat) v, cs[j]? = some v → cur[(n + l.length) * size + j]? = some v) → IsRows (R w) size cur n (l ++ [t]) (bs ++ b) := by
  induction l with
  | nil =>
    intro n bs h hc
    have h : bs = [] := h
    subst h
    exact ⟨cs, b, [], by simp, by simpa using hc, ht, rfl⟩
  | cons u us ih =>
    intro n bs h hc
    obtain ⟨cs', b1, b2, h1, h2, h3, h4⟩ := h
    refine ⟨cs', b1, b2 ++ b, by rw [h1, List.append_assoc], h2, h3, ih (n + 1) b2 h4 (fun j v hv => ?_)⟩
    have := hc j v hv
    rwa [show n + (u :: us).length = n + 1 + us.length from by simp; omega] at this
theorem isRows_all {w : World} {cur : List Value} (l : List α) : ∀ (n : Nat) (bs : List Nat), IsRows (R w) size cur n l bs →
    ∀ (j : Nat) t, l[j]? = some t → ∃ cs b1 b2 b3, bs = b1 ++ b2 ++ b3 ∧ (∀ (q : Nat) v, cs[q]? = some v → cur[(n + j) * size + q]? = some v) ∧ R w cs t b2 := by
  induction l with
  | nil => intro _ _ _ j t h; simp at h
  | cons u us ih =>
    intro n bs h j t ht
    obtain ⟨cs, b1, b2, h1, h2, h3, h4⟩ := h
    cases j with
    | zero => simp at ht; subst ht; exact ⟨cs, [], b1, b2, by rw [h1]; rfl, h2, h3⟩
    | succ j =>
      obtain ⟨cs', c1, c2, c3, g1, g2, g3⟩ := ih (n + 1) b2 h4 j t (by simpa using ht)
      refine ⟨cs', b1 ++ c1, c2, c3, by rw [h1, g1]; simp, ?_, g3⟩
      rwa [show n + 1 + j = n + (j + 1) from by omega] at g2
/-- A row in a block of its own. -/
def OwnRw (R : World → List Value → α → List Nat → Prop) (size : Nat) (w : World) (a : Option Addr) (l : List α) (bs : List Nat) : Prop :=
  (l = [] ∧ bs = []) ∨ ∃ lb cur ty b3, a = some ⟨lb, 0, none⟩ ∧ bs = lb :: b3 ∧ Block w lb cur ty ∧ IsRows (R w) size cur 0 l b3
theorem OwnRw.same (hR : OwnElem R size) {w w' : World} {a : Option Addr} {l : List α} {bs : List Nat} (h : OwnRw R size w a l bs) (hs : ∀ b ∈ bs, w'.heap[b]? = w.heap[b]?) : OwnRw R size w' a l bs := by
  rcases h with h | ⟨lb, cur, ty, b3, h1, h2, h3, h4⟩
  · exact .inl h
  · subst h2
    exact .inr ⟨lb, cur, ty, b3, h1, rfl, h3.of_heap (hs lb (by simp)), h4.same hR l 0 b3 (fun b hb => hs b (by simp [hb]))⟩
theorem OwnRw.toR (hR : OwnElem R size) {w : World} {a : Option Addr} {l : List α} {bs : List Nat} {B : Nat} {R' : List Value → α → Prop} (h : OwnRw R size w a l bs) (hs : ∀ b ∈ bs, b < B)
    (hT : ∀ cs x b, R w cs x b → (∀ q ∈ b, q < B) → R' cs x) : RowR R' size B w a l := by
  intro j t ht
  rcases h with ⟨rfl, _⟩ | ⟨lb, cur, ty, b3, h1, h2, h3, h4⟩
  · simp at ht
  · subst h2
    obtain ⟨cs, c1, c2, c3, g1, g2, g3⟩ := isRows_all l 0 b3 h4 j t ht
    exact ⟨lb, 0, cs, h1, hs lb (by simp), hR.len g3, fun q v hv => by rw [Nat.zero_add]; exact h3.cell (by have := g2 q v hv; rwa [Nat.zero_add] at this), hT _ _ _ g3 (fun q hq => hs q (by rw [g1]; simp [hq]))⟩
/-- A row of the call's own (all of it from block B on), whose elements lie in blocks of their own. -/
structure RowG (R : World → List Value → α → List Nat → Prop) (ty : TypeId) (size : Nat) (B : Nat) (wr : World) (lv : Value) (j : Nat) (cl : List Value) (l : List α) (bs : List Nat) : Prop where
  own : wr.ownsRow B ty size lv j cl
  os : IsRows (R wr) size cl 0 l bs
  nd : bs.Nodup
  lt : ∀ b ∈ bs, B ≤ b ∧ b < wr.heap.size
  ne : ∀ b ∈ bs, lv.ownBlock ≠ some b
  len : l.length = j
theorem RowG.nil (ty : TypeId) (B : Nat) (wr : World) : RowG R ty size B wr (.slice none 0 0) 0 [] [] [] :=
  ⟨World.ownsRow_nil _ _ _ _, rfl, List.nodup_nil, by simp, by simp, rfl⟩
theorem RowG.same (hR : OwnElem R size) {ty : TypeId} {B : Nat} {wr w' : World} {lv : Value} {j : Nat} {cl : List Value} {l : List α} {bs : List Nat} (h : RowG R ty size B wr lv j cl l bs) (hb : Below wr.heap.size wr w') : RowG R ty size B w' lv j cl l bs :=
  ⟨own_of_heap h.own fun k e => hb.block k (h.own.lt k e).2, h.os.same hR l 0 bs fun b hb' => hb.block b (h.lt b hb').2, h.nd, fun b hb' => ⟨(h.lt b hb').1, Nat.lt_of_lt_of_le (h.lt b hb').2 hb.size⟩, h.ne, h.len⟩
theorem RowG.step (hR : OwnElem R size) {ty : TypeId} {B : Nat} {wr w2 w3 : World} {lv v : Value} {j g : Nat} {cl cs : List Value} {l : List α} {bs bs2 : List Nat} {t : α} {Y : Obj} (h : RowG R ty size B wr lv j cl l bs) (hb : Below wr.heap.size wr w2) (hBw : B ≤ wr.heap.size)
    (ho : R w2 cs t bs2) (hn : bs2.Nodup) (hr : ∀ b ∈ bs2, wr.heap.size ≤ b ∧ b < w2.heap.size) (hown : w3.ownsRow B ty size v (j + 1) (cl ++ cs)) (hg : (w2.alloc Y).grownBy w3 lv.ownBlock)
    (hv : v.ownBlock = some g) (hat : lv.ownBlock = some g ∨ g = w2.heap.size + 1) : RowG R ty size B w3 v (j + 1) (cl ++ cs) (l ++ [t]) (bs ++ bs2) := by
  have hL : ∀ b, lv.ownBlock = some b → B ≤ b ∧ b < wr.heap.size := h.own.lt
  have hz := hb.size
  have hgz : w2.heap.size + 1 ≤ w3.heap.size := by have := hg.size; simpa using this
  have hk : ∀ b, b < w2.heap.size → lv.ownBlock ≠ some b → w3.heap[b]? = w2.heap[b]? := fun b hb hn => by
    rw [hg.block b (by simp; omega) (fun e => hn e.symm)]
    exact Below.heap_alloc _ _ _ hb
  have hk1 : ∀ b ∈ bs, w3.heap[b]? = wr.heap[b]? := fun b hm => by
    rw [hk b (by have := (h.lt b hm).2; omega) (h.ne b hm)]
    exact hb.block b (h.lt b hm).2
  have hk2 : ∀ b ∈ bs2, w3.heap[b]? = w2.heap[b]? := fun b hm => hk b (hr b hm).2 (fun e => by have := (hL b e).2; have := (hr b hm).1; omega)
  have hlen : cl.length = l.length * size := by have := h.own.1; rw [h.len]; simpa using this
  refine ⟨hown, ?_, ?_, ?_, ?_, by simp [h.len]⟩
  · refine IsRows.snoc (hR.same ho hk2) l _ _ ((h.os.same hR l 0 bs hk1).cur hR l 0 bs (fun q _ hq => ?_)) (fun q v hv => ?_)
    · rw [List.getElem?_append_left (by rw [Nat.zero_add] at hq; omega)]
    · rw [List.getElem?_append_right (by rw [Nat.zero_add]; omega), show (0 + l.length) * size + q - cl.length = q from by rw [Nat.zero_add]; omega]
      exact hv
  · refine List.nodup_append.2 ⟨h.nd, hn, fun x hx y hy => ?_⟩
    have h1 := (h.lt x hx).2
    have h2 := (hr y hy).1
    omega
  · intro b hm
    rcases List.mem_append.1 hm with hm | hm
    · have := h.lt b hm; omega
    · have := hr b hm; omega
  · intro b hm e
    rw [hv] at e
    injection e with e
    subst e
    rcases List.mem_append.1 hm with hm | hm
    · rcases hat with e | e
      · exact h.ne _ hm e
      · have := (h.lt _ hm).2; omega
    · have h2 := hr _ hm
      rcases hat with e | e
      · have := (hL _ e).2; omega
      · omega
theorem RowG.part (hR : OwnElem R size) {ty : TypeId} {B : Nat} {wr : World} {lv : Value} {j : Nat} {cl : List Value} {l : List α} {bs : List Nat} (h : RowG R ty size B wr lv j cl l bs) :
    ∃ la lc b2, lv = .slice la j lc ∧ SlOk la j lc ∧ OwnRw R size wr la l b2 ∧ b2.Nodup ∧ ∀ b ∈ b2, B ≤ b ∧ b < wr.heap.size := by
  obtain ⟨h1, h2⟩ := h.own
  rcases h2 with ⟨rfl, h3⟩ | ⟨g, cap, cur, rfl, hb, hh, hn, hm, hs, ht⟩
  · have hl : l = [] := List.eq_nil_of_length_eq_zero (by rw [h.len]; exact h3)
    exact ⟨none, 0, [], by rw [h3], ⟨⟨by omega, by omega⟩, fun _ => rfl⟩, .inl ⟨hl, rfl⟩, List.nodup_nil, by simp⟩
  · refine ⟨some ⟨g, 0, none⟩, cap, g :: bs, rfl, ⟨⟨hn, by unfold maxLen at hm; omega⟩, (fun e => by cases e)⟩, .inr ⟨g, cur.toList, ty, bs, rfl, rfl, by unfold Block; simpa using hh, ?_⟩, List.nodup_cons.2 ⟨fun hm => h.ne g hm rfl, h.nd⟩, ?_⟩
    · refine h.os.cur hR l 0 bs (fun q _ hq => ?_)
      rw [Nat.zero_add] at hq
      rw [← ht, List.getElem?_take_of_lt (by rw [← h.len]; omega)]
    · intro b hm2
      rcases List.mem_cons.1 hm2 with rfl | hm2
      · exact ⟨hb, (Array.getElem?_eq_some_iff.1 hh).1⟩
      · exact h.lt b hm2
end
theorem ownIsO : OwnElem IsO 6 := ⟨fun h hs => IsO.same _ _ _ h hs, fun h => h.six⟩
/-- An own node, an own edge, an own graph. -/
def IsNO (w : World) (cs : List Value) (n : Nt) (bs : List Nat) : Prop :=
  ∃ la lc ka kc va vc b1 b2 b3, cs = [.int .i64 n.id, .slice la n.labels.length lc, .slice ka n.keys.length kc, .slice va n.vals.length vc] ∧ in64 n.id ∧ (SlOk la n.labels.length lc ∧ SlOk ka n.keys.length kc ∧ SlOk va n.vals.length vc) ∧ bs = b1 ++ (b2 ++ b3) ∧
    OwnStr w la n.labels b1 ∧ OwnStr w ka n.keys b2 ∧ OwnRw IsO 6 w va n.vals b3
def IsEO (w : World) (cs : List Value) (n : Et) (bs : List Nat) : Prop :=
  ∃ ka kc va vc b2 b3, cs = [.int .i64 n.id, .int .i64 n.src, .int .i64 n.dst, .string n.ty, .slice ka n.keys.length kc, .slice va n.vals.length vc] ∧ (in64 n.id ∧ in64 n.src ∧ in64 n.dst) ∧ (SlOk ka n.keys.length kc ∧ SlOk va n.vals.length vc) ∧ bs = b2 ++ b3 ∧
    OwnStr w ka n.keys b2 ∧ OwnRw IsO 6 w va n.vals b3
theorem ownIsNO : OwnElem IsNO 4 := by
  refine ⟨fun {w w' cs x bs} h hs => ?_, fun {w cs x bs} h => ?_⟩
  · obtain ⟨la, lc, ka, kc, va, vc, b1, b2, b3, h1, h2, h3, h4, h5, h6, h7⟩ := h
    subst h4
    exact ⟨la, lc, ka, kc, va, vc, b1, b2, b3, h1, h2, h3, rfl, h5.same (fun b hb => hs b (by simp [hb])), h6.same (fun b hb => hs b (by simp [hb])), h7.same ownIsO (fun b hb => hs b (by simp [hb]))⟩
  · obtain ⟨la, lc, ka, kc, va, vc, b1, b2, b3, h1, _⟩ := h
    rw [h1]; rfl
theorem ownIsEO : OwnElem IsEO 6 := by
  refine ⟨fun {w w' cs x bs} h hs => ?_, fun {w cs x bs} h => ?_⟩
  · obtain ⟨ka, kc, va, vc, b2, b3, h1, h2, h3, h4, h6, h7⟩ := h
    subst h4
    exact ⟨ka, kc, va, vc, b2, b3, h1, h2, h3, rfl, h6.same (fun b hb => hs b (by simp [hb])), h7.same ownIsO (fun b hb => hs b (by simp [hb]))⟩
  · obtain ⟨ka, kc, va, vc, b2, b3, h1, _⟩ := h
    rw [h1]; rfl
theorem OwnRw.vs {w : World} {a : Option Addr} {l : List Vt} {bs : List Nat} {B : Nat} (h : OwnRw IsO 6 w a l bs) (hs : ∀ b ∈ bs, b < B) : IsVs B w a 0 l := by
  have h1 := h.toR ownIsO (R' := IsV B w) hs (fun cs x b hx hb => IsO.isV _ _ _ hx hb)
  refine IsVs.mk fun j t ht => ?_
  obtain ⟨b, off, cs, g1, g2, _, g4, g5⟩ := h1 j t ht
  exact ⟨b, off, cs, g1, g2, by rw [Nat.zero_add]; exact g4, g5⟩
theorem IsNO.isN {w : World} {cs : List Value} {n : Nt} {bs : List Nat} {B : Nat} (h : IsNO w cs n bs) (hs : ∀ b ∈ bs, b < B) : IsN B w cs n := by
  obtain ⟨la, lc, ka, kc, va, vc, b1, b2, b3, h1, h2, ⟨h3, h3', h3''⟩, h4, h5, h6, h7⟩ := h
  subst h4
  exact ⟨la, lc, ka, kc, va, vc, h1, h2, h3, h5.row (fun b hb => hs b (by simp [hb])), h3', h3'', h6.row (fun b hb => hs b (by simp [hb])), h7.vs (fun b hb => hs b (by simp [hb]))⟩
theorem IsEO.isE {w : World} {cs : List Value} {n : Et} {bs : List Nat} {B : Nat} (h : IsEO w cs n bs) (hs : ∀ b ∈ bs, b < B) : IsE B w cs n := by
  obtain ⟨ka, kc, va, vc, b2, b3, h1, h2, ⟨h3', h3''⟩, h4, h6, h7⟩ := h
  subst h4
  exact ⟨ka, kc, va, vc, h1, h2, h3', h3'', h6.row (fun b hb => hs b (by simp [hb])), h7.vs (fun b hb => hs b (by simp [hb]))⟩
def IsGO (w : World) (cs : List Value) (g : Gt) (bs : List Nat) : Prop :=
  ∃ na nc ea ec b1 b2, cs = [.slice na g.nodes.length nc, .slice ea g.edges.length ec] ∧ (SlOk na g.nodes.length nc ∧ SlOk ea g.edges.length ec) ∧ bs = b1 ++ b2 ∧ OwnRw IsNO 4 w na g.nodes b1 ∧ OwnRw IsEO 6 w ea g.edges b2
theorem IsGO.same {w w' : World} {cs : List Value} {g : Gt} {bs : List Nat} (h : IsGO w cs g bs) (hs : ∀ b ∈ bs, w'.heap[b]? = w.heap[b]?) : IsGO w' cs g bs := by
  obtain ⟨na, nc, ea, ec, b1, b2, h1, h2, h3, h4, h5⟩ := h
  subst h3
  exact ⟨na, nc, ea, ec, b1, b2, h1, h2, rfl, h4.same ownIsNO (fun b hb => hs b (by simp [hb])), h5.same ownIsEO (fun b hb => hs b (by simp [hb]))⟩
theorem IsGO.isG {w : World} {cs : List Value} {g : Gt} {bs : List Nat} {B : Nat} (h : IsGO w cs g bs) (hs : ∀ b ∈ bs, b < B) : IsG B w cs g := by
  obtain ⟨na, nc, ea, ec, b1, b2, h1, ⟨h2, h2'⟩, h3, h4, h5⟩ := h
  subst h3
  exact ⟨na, nc, ea, ec, h1, h2, h2', h4.toR ownIsNO (fun b hb => hs b (by simp [hb])) (fun cs x b hx hb => hx.isN hb), h5.toR ownIsEO (fun b hb => hs b (by simp [hb])) (fun cs x b hx hb => hx.isE hb)⟩
/-- What comes is x, in new memory of its own. -/
def FreshP {α : Type} (R : World → List Value → α → List Nat → Prop) (x : α) (w : World) (e : Ending) (w' : World) : Prop :=
  ∃ cs bs, e = .returned (.agg cs.toArray) ∧ Below w.heap.size w w' ∧ R w' cs x bs ∧ bs.Nodup ∧ ∀ b ∈ bs, w.heap.size ≤ b ∧ b < w'.heap.size
end Go.Proofs.Ytoakloicjlfaaaa

/- Layer 14: properties in new memory: copies, copyProps. Conditions: the properties are small. -/
namespace Go.Proofs.Ytoakloicjlfaaaa
open Go.RowKit
set_option linter.unusedSimpArgs false
set_option linter.unusedVariables false
set_option maxRecDepth 100000

def PropsP (keys : List ByteArray) (vals : List Vt) (w : World) (e : Ending) (w' : World) : Prop :=
  ∃ ka kc va vc b1 b2, e = .returned (.tuple #[.slice ka keys.length kc, .slice va vals.length vc]) ∧ Below w.heap.size w w' ∧ SlOk ka keys.length kc ∧ SlOk va vals.length vc ∧ OwnStr w' ka keys b1 ∧ OwnRw IsO 6 w' va vals b2 ∧
    (b1 ++ b2).Nodup ∧ ∀ b ∈ b1 ++ b2, w.heap.size ≤ b ∧ b < w'.heap.size
/-- Properties that are small enough to be copied. -/
def SmPr (keys : List ByteArray) (vals : List Vt) : Prop := keys.length ≤ 1048576 ∧ vals.length ≤ 1048576 ∧ ∀ (j : Nat) t, vals[j]? = some t → wtV t ≤ 1048576
theorem PropsP.mk' {keys : List ByteArray} {vals : List Vt} {w w' : World} {ka va : Option Addr} {kc vc : Nat} {b1 b2 : List Nat} {m : Nat} (hb : Below w.heap.size w w') (h1 : SlOk ka keys.length kc) (h2 : SlOk va vals.length vc) (h3 : OwnStr w' ka keys b1) (h4 : OwnRw IsO 6 w' va vals b2)
    (n1 : b1.Nodup) (n2 : b2.Nodup) (r1 : ∀ b ∈ b1, w.heap.size ≤ b ∧ b < w'.heap.size) (r2 : ∀ b ∈ b2, w.heap.size ≤ b ∧ b < w'.heap.size) (hd : (∀ b ∈ b1, b < m) ∧ (∀ b ∈ b2, m ≤ b) ∨ (∀ b ∈ b2, b < m) ∧ (∀ b ∈ b1, m ≤ b)) :
    PropsP keys vals w (.returned (.tuple #[.slice ka keys.length kc, .slice va vals.length vc])) w' := by
  refine ⟨ka, kc, va, vc, b1, b2, rfl, hb, h1, h2, h3, h4, List.nodup_append.2 ⟨n1, n2, fun x hx y hy => ?_⟩, fun b hm => ?_⟩
  · rcases hd with ⟨q1, q2⟩ | ⟨q1, q2⟩
    · have := q1 x hx; have := q2 y hy; omega
    · have := q1 y hy; have := q2 x hx; omega
  · rcases List.mem_append.1 hm with h | h
    · exact r1 b h
    · exact r2 b h

set_option maxHeartbeats 4000000 in
theorem copies_any {B : Nat} {w : World} {ka va : Option Addr} {kc vc : Nat} {keys : List ByteArray} {vals : List Vt} (h : IsPr B w ka va kc vc keys vals) (hB : B ≤ w.heap.size) (hs : SmPr keys vals) :
    Calls Try.prog 80 #[.slice ka keys.length kc, .slice va vals.length vc] w (PropsP keys vals w) := by
  obtain ⟨hks, hvs, hK, hV⟩ := h
  obtain ⟨hkl, hvl, hw⟩ := hs
  have HKs := Lib.hid hK
  have HLs := Lib.hid hV
  have HW := Lib.hid hw
  have HKZ := Lib.hid hks
  have HVZ := Lib.hid hvs
  clear hK hV hw hks hvs
  obtain ⟨iV, siV, szV, s1V, s2V⟩ := info_parts Try.infoVal
  obtain ⟨W0, hmk, hown0, hg0⟩ := run_make_own (P := Try.prog) w w.heap.size 36 71 iV _ 6 Try.underlying36 siV szV s1V .i64 .i64 vals.length (by rw [s2V]; omega) (by unfold maxLen; omega) (Nat.le_refl _)
  have HBW : Hid (Below w.heap.size w W0) := Lib.hid ((Below.refl _ _).grown hg0 (Nat.le_refl _) (fun k h => by cases h))
  have HG0 := Lib.hid hown0
  have HR0 : Hid (RowG IsO 71 6 w.heap.size W0 (.slice (some ⟨w.heap.size, 0, none⟩) 0 vals.length) 0 [] (vals.take 0) []) := Lib.hid ⟨hown0, rfl, List.nodup_nil, by simp, by simp, rfl⟩
  clear hown0 hg0
  go_enter Try.func80, Try.ntmps80
  go_wp2_with fail
  clear hmk
  go_loopw [6, 14] (fun lv iv wr => ∃ (j : Nat) (a : Option Addr) (c : Nat) (cl : List Value) (bs : List Nat), lv = .slice a j c ∧ iv = .int .i64 j ∧ j ≤ vals.length ∧ Hid (RowG IsO 71 6 w.heap.size wr (.slice a j c) j cl (vals.take j) bs) ∧ Hid (Below w.heap.size w wr)) (fun _ iv _ => vals.length - (intOf iv).toNat)
  case atStart => exact ⟨0, _, _, [], [], rfl, rfl, Nat.zero_le _, HR0, HBW⟩
  case round =>
    obtain ⟨j, a, c, cl, bs, rfl, rfl, hj, HRO, HBR⟩ := hrel
    by_cases hlt : j < vals.length
    · have hlt' : (j : Int) < vals.length := by omega
      have hj0 : (0 : Int) ≤ (j : Int) := by omega
      have hzr := HBR.out.size
      have hbr : Below w.heap.size w wr := HBR.out
      obtain ⟨t, ht⟩ := get_some hlt
      have hwt := HW.out j t ht
      obtain ⟨eb, eo, k2, b2, i2, s2, l2, ks2, la2, lc2, ka2, kc2, rfl, rfl, heb, ⟨g0, g1, g2, g3, g4, g5⟩, hVt⟩ := (HLs.out.below hbr hB).at ht
      obtain ⟨W1, hW1⟩ : ∃ W1, wr.alloc (.cells #[.int .i64 k2, .bool b2, .int .i64 i2, .string s2, .slice la2 l2.length lc2, .slice ka2 ks2.length kc2] 71) = W1 := ⟨_, rfl⟩
      have hb1 : Below wr.heap.size wr W1 := by rw [← hW1]; exact (Below.refl _ _).alloc (Nat.le_refl _) _
      have hB1 := Nat.le_trans hB hbr.size
      have HCO := Lib.hid (copy_any _ _ B W1 (IsV.below hb1 hB1 _ _ hVt) (Nat.le_trans hB1 hb1.size) hwt)
      have HB1 := Lib.hid hb1
      have HW1 := Lib.hid hW1
      clear hb1 hB1 hW1
      have HTJ := Lib.hid ht
      clear ht hVt hbr hwt
      go_wp2_with fail
      rw [HW1.out]
      refine HCO.out.mono ?_
      rintro e w2 ⟨cs', bs', rfl, hb2, ho2, hn2, hbs2⟩
      have ho3 := ho2
      unfold IsO at ho3
      obtain ⟨la3, lc3, ka3, kc3, c1, c2, rfl, -, -, -⟩ := ho3
      have hb2 : Below wr.heap.size wr w2 := HB1.out.trans (hb2.mono HB1.out.size)
      have hbs2 : ∀ b ∈ bs', wr.heap.size ≤ b ∧ b < w2.heap.size := fun b hb => ⟨Nat.le_trans HB1.out.size (hbs2 b hb).1, (hbs2 b hb).2⟩
      have HRO2 := Lib.hid (HRO.out.same ownIsO hb2)
      have HB2 := Lib.hid hb2
      have HO2 := Lib.hid ho2
      have HN2 := Lib.hid (show _ ∧ _ from ⟨hn2, hbs2⟩)
      have hz2 : w.heap.size ≤ w2.heap.size := Nat.le_trans hzr hb2.size
      clear hb2 ho2 hn2 hbs2 g0 g1 g2 g3 g4 g5
      go_wp2_with (at_builtin; refine wpList_append_lies _ rfl _ _ 36 rfl w.heap.size 71 iV _ 6 88 Try.underlying36 siV szV s1V s2V rfl (by omega) (.slice a j c) j cl rfl (HRO2.out.own.alloc _) ⟨w2.heap.size, 0, none⟩ 1 1 [.int .i64 k2, .bool b2, .int .i64 i2, .string s2, .slice la3 l2.length lc3, .slice ka3 ks2.length kc3] rfl rfl (World.news_of_block (cs := #[.int .i64 k2, .bool b2, .int .i64 i2, .string s2, .slice la3 l2.length lc3, .slice ka3 ks2.length kc3]) (t := 71) (fr := (0, 0)) (Block.new w2 [.int .i64 k2, .bool b2, .int .i64 i2, .string s2, .slice la3 l2.length lc3, .slice ka3 ks2.length kc3] 71)) (by simp [Value.oneCell']) (by omega) (by unfold maxLen; omega) (by omega) (by simp; omega) (w2.heap.size + 1) (by simp) ?_)
      intro g cap w3 hown hgrow hat hlt3
      have HROS := Lib.hid (HRO.out.step ownIsO HB2.out hzr HO2.out HN2.out.1 HN2.out.2 hown hgrow rfl hat)
      have HB3 : Hid (Below w.heap.size w w3) := Lib.hid (Below.grown ((HBR.out.trans (HB2.out.mono hzr)).alloc hz2 _) hgrow (by simp; omega) (fun k e => (HRO2.out.own.lt k e).1))
      clear hown hgrow hat hlt3
      go_wp2_with fail
      go_roundw
      case rel => exact ⟨j + 1, _, _, _, _, rfl, by go_num, by omega, Lib.hid (by rw [take_succ_some HTJ.out]; exact HROS.out), HB3⟩
      case measure => simp [intOf]; omega
    · have hlt' : ¬ (j : Int) < vals.length := by omega
      have hjl : j = vals.length := by omega
      have HRN : Hid (RowG IsO 71 6 w.heap.size wr (.slice a j c) j cl vals bs) := Lib.hid (by have := HRO.out; rwa [List.take_of_length_le (by omega)] at this)
      obtain ⟨la9, lc9, b29, hv9, hc9, hp9, hn9, hr9⟩ := HRN.out.part ownIsO
      injection hv9 with e1 e2 e3
      subst e1 e3
      have HPP := Lib.hid (show _ ∧ _ ∧ _ ∧ _ from ⟨hc9, hp9, hn9, hr9⟩)
      have HJL := Lib.hid hjl
      clear hc9 hp9 hn9 hr9 hjl
      have hbr : Below w.heap.size w wr := HBR.out
      have HCL := Lib.hid (clone_any keys ka kc B wr (HKs.out.below hbr hB) (Nat.le_trans hB hbr.size) HKZ.out.2 (by omega))
      have HBr := Lib.hid hbr
      clear hbr
      go_wp2_with fail
      refine HCL.out.mono ?_
      rintro e w5 ⟨ka', kc', bk, rfl, hb5, ho5, hr5, hn5, hz5, hc5⟩
      have HE := Lib.hid (show _ ∧ _ ∧ _ ∧ _ ∧ _ ∧ _ from ⟨hb5, ho5, hr5, hn5, hz5, hc5⟩)
      clear hb5 ho5 hr5 hn5 hz5 hc5
      go_wp2_with fail
      go_ret2
      obtain ⟨hb5, ho5, hr5, hn5, hz5, hc5⟩ := HE.out
      obtain ⟨hc9, hp9, hn9, hr9⟩ := HPP.out
      have hjl := HJL.out
      subst hjl
      refine PropsP.mk' (m := wr.heap.size) (HBr.out.trans (hb5.mono HBr.out.size)) ⟨⟨hc5.1, by have := hc5.2; unfold maxLen at this; omega⟩, hz5⟩ hc9 ho5 (hp9.same ownIsO fun q hq => hb5.block q (hr9 q hq).2) hn5 hn9 (fun q hq => ⟨Nat.le_trans HBr.out.size (hr5 q hq).1, (hr5 q hq).2⟩) (fun q hq => ⟨(hr9 q hq).1, Nat.lt_of_lt_of_le (hr9 q hq).2 hb5.size⟩) (.inr ⟨fun q hq => (hr9 q hq).2, fun q hq => (hr5 q hq).1⟩)

set_option maxHeartbeats 4000000 in
theorem copyProps_any {B : Nat} {w : World} {ka va : Option Addr} {kc vc : Nat} {keys : List ByteArray} {vals : List Vt} (h : IsPr B w ka va kc vc keys vals) (hB : B ≤ w.heap.size) (hs : SmPr keys vals) :
    Calls Try.prog 69 #[.slice ka keys.length kc, .slice va vals.length vc] w (PropsP keys vals w) := by
  obtain ⟨hks, hvs, hK, hV⟩ := h
  obtain ⟨hkl, hvl, hw⟩ := hs
  have HKs := Lib.hid hK
  have HLs := Lib.hid hV
  have HW := Lib.hid hw
  have HKZ := Lib.hid hks
  have HVZ := Lib.hid hvs
  clear hK hV hw hks hvs
  obtain ⟨iV, siV, szV, s1V, s2V⟩ := info_parts Try.infoVal
  obtain ⟨iS, siS, szS, s1S, s2S⟩ := info_parts Try.infoStr
  go_enter Try.func69, Try.ntmps69
  go_wp2_with (at_builtin; refine append_cells rfl _ _ 35 rfl w.heap.size 9 iS (.string ⟨#[]⟩) 16 Try.underlying35 siS szS s1S s2S rfl (.slice none 0 0) 0 [] rfl (World.ownsRow_nil _ _ _ _) ka keys.length kc B (keys.map Value.string) rfl HKZ.out.2 (by simp) HKs.out ?c2 ?c3 ?c4 ?c5 ?_)
  case c2 => intro q hq; simp at hq; obtain ⟨z, _, rfl⟩ := hq; rfl
  case c3 => unfold maxLen; omega
  case c4 => omega
  case c5 => exact Nat.le_refl _
  intro v1 W0 hown5 hg5
  have hB5 : Below w.heap.size w W0 := (Below.refl _ _).grown hg5 (Nat.le_refl _) (fun k hk => by simp [Value.ownBlock] at hk)
  obtain ⟨ka', kc', bk, rfl, g1, g2, g3, g4, g5⟩ := OwnStr.of_own hown5
  have HBW := Lib.hid hB5
  have HG := Lib.hid (show _ ∧ _ ∧ _ ∧ _ ∧ _ from ⟨g1, g2, g3, g4, g5⟩)
  have HR0 : Hid (RowG IsO 71 6 W0.heap.size W0 (.slice none 0 0) 0 [] (vals.take 0) []) := Lib.hid (RowG.nil _ _ _)
  clear hown5 hg5 hB5 g1 g2 g3 g4 g5
  go_wp2_with fail
  go_loopw [7, 8] (fun lv iv wr => ∃ (j : Nat) (a : Option Addr) (c : Nat) (cl : List Value) (bs : List Nat), lv = .slice a j c ∧ iv = .int .i64 j ∧ j ≤ vals.length ∧ Hid (RowG IsO 71 6 W0.heap.size wr (.slice a j c) j cl (vals.take j) bs) ∧ Hid (Below W0.heap.size W0 wr)) (fun _ iv _ => vals.length - (intOf iv).toNat)
  case atStart => exact ⟨0, _, _, [], [], rfl, rfl, Nat.zero_le _, HR0, Lib.hid (Below.refl _ _)⟩
  case round =>
    obtain ⟨j, a, c, cl, bs, rfl, rfl, hj, HRO, HBR⟩ := hrel
    by_cases hlt : j < vals.length
    · have hlt' : (j : Int) < vals.length := by omega
      have hj0 : (0 : Int) ≤ (j : Int) := by omega
      have hzr := HBR.out.size
      have hbr : Below w.heap.size w wr := HBW.out.trans (HBR.out.mono HBW.out.size)
      obtain ⟨t, ht⟩ := get_some hlt
      have hwt := HW.out j t ht
      obtain ⟨eb, eo, k2, b2, i2, s2, l2, ks2, la2, lc2, ka2, kc2, rfl, rfl, heb, ⟨g0, g1, g2, g3, g4, g5⟩, hVt⟩ := (HLs.out.below hbr hB).at ht
      have HCO := Lib.hid (rcopy_any _ _ B wr hVt (Nat.le_trans hB hbr.size) hwt)
      have HB1 := Lib.hid (Below.refl wr.heap.size wr)
      have HTJ := Lib.hid ht
      clear ht hVt hbr hwt
      go_wp2_with fail
      refine HCO.out.mono ?_
      rintro e w2 ⟨cs', bs', rfl, hb2, ho2, hn2, hbs2⟩
      have ho3 := ho2
      unfold IsO at ho3
      obtain ⟨la3, lc3, ka3, kc3, c1, c2, rfl, -, -, -⟩ := ho3
      have hb2 : Below wr.heap.size wr w2 := HB1.out.trans (hb2.mono HB1.out.size)
      have hbs2 : ∀ b ∈ bs', wr.heap.size ≤ b ∧ b < w2.heap.size := fun b hb => ⟨Nat.le_trans HB1.out.size (hbs2 b hb).1, (hbs2 b hb).2⟩
      have HRO2 := Lib.hid (HRO.out.same ownIsO hb2)
      have HB2 := Lib.hid hb2
      have HO2 := Lib.hid ho2
      have HN2 := Lib.hid (show _ ∧ _ from ⟨hn2, hbs2⟩)
      have hz2 : W0.heap.size ≤ w2.heap.size := Nat.le_trans hzr hb2.size
      clear hb2 ho2 hn2 hbs2 g0 g1 g2 g3 g4 g5
      go_wp2_with (at_builtin; refine wpList_append_lies _ rfl _ _ 36 rfl W0.heap.size 71 iV _ 6 88 Try.underlying36 siV szV s1V s2V rfl (by omega) (.slice a j c) j cl rfl (HRO2.out.own.alloc _) ⟨w2.heap.size, 0, none⟩ 1 1 [.int .i64 k2, .bool b2, .int .i64 i2, .string s2, .slice la3 l2.length lc3, .slice ka3 ks2.length kc3] rfl rfl (World.news_of_block (cs := #[.int .i64 k2, .bool b2, .int .i64 i2, .string s2, .slice la3 l2.length lc3, .slice ka3 ks2.length kc3]) (t := 71) (fr := (0, 0)) (Block.new w2 [.int .i64 k2, .bool b2, .int .i64 i2, .string s2, .slice la3 l2.length lc3, .slice ka3 ks2.length kc3] 71)) (by simp [Value.oneCell']) (by omega) (by unfold maxLen; omega) (by omega) (by simp; omega) (w2.heap.size + 1) (by simp) ?_)
      intro g cap w3 hown hgrow hat hlt3
      have HROS := Lib.hid (HRO.out.step ownIsO HB2.out hzr HO2.out HN2.out.1 HN2.out.2 hown hgrow rfl hat)
      have HB3 : Hid (Below W0.heap.size W0 w3) := Lib.hid (Below.grown ((HBR.out.trans (HB2.out.mono hzr)).alloc hz2 _) hgrow (by simp; omega) (fun k e => (HRO2.out.own.lt k e).1))
      clear hown hgrow hat hlt3
      go_wp2_with fail
      go_roundw
      case rel => exact ⟨j + 1, _, _, _, _, rfl, by go_num, by omega, Lib.hid (by rw [take_succ_some HTJ.out]; exact HROS.out), HB3⟩
      case measure => simp [intOf]; omega
    · have hlt' : ¬ (j : Int) < vals.length := by omega
      have hjl : j = vals.length := by omega
      have HRN : Hid (RowG IsO 71 6 W0.heap.size wr (.slice a j c) j cl vals bs) := Lib.hid (by have := HRO.out; rwa [List.take_of_length_le (by omega)] at this)
      obtain ⟨la9, lc9, b29, hv9, hc9, hp9, hn9, hr9⟩ := HRN.out.part ownIsO
      injection hv9 with e1 e2 e3
      subst e1 e3
      have HPP := Lib.hid (show _ ∧ _ ∧ _ ∧ _ from ⟨hc9, hp9, hn9, hr9⟩)
      have HJL := Lib.hid hjl
      clear hc9 hp9 hn9 hr9 hjl
      have hbr : Below w.heap.size w wr := HBW.out.trans (HBR.out.mono HBW.out.size)
      have HBr := Lib.hid hbr
      clear hbr
      go_wp2_with fail
      go_ret2
      obtain ⟨g1, g2, g3, g4, g5⟩ := HG.out
      obtain ⟨hc9, hp9, hn9, hr9⟩ := HPP.out
      have hjl := HJL.out
      subst hjl
      refine PropsP.mk' (m := W0.heap.size) HBr.out ⟨⟨g5.1, by have := g5.2; unfold maxLen at this; omega⟩, g4⟩ hc9 (g1.same fun q hq => HBR.out.block q (g2 q hq).2) hp9 g3 hn9 (fun q hq => ⟨(g2 q hq).1, Nat.lt_of_lt_of_le (g2 q hq).2 HBR.out.size⟩) (fun q hq => ⟨Nat.le_trans HBW.out.size (hr9 q hq).1, (hr9 q hq).2⟩) (.inl ⟨fun q hq => (g2 q hq).2, fun q hq => (hr9 q hq).1⟩)
end Go.Proofs.Ytoakloicjlfaaaa

/- Layer 14: a node, an edge in new memory (the program's and the reference's). Conditions: they are small. -/
namespace Go.Proofs.Ytoakloicjlfaaaa
open Go.RowKit
set_option linter.unusedSimpArgs false
set_option linter.unusedVariables false
set_option maxRecDepth 100000

def SmN (n : Nt) : Prop := n.labels.length ≤ 1048576 ∧ SmPr n.keys n.vals
def SmE (n : Et) : Prop := SmPr n.keys n.vals
def set4 (w : World) (g o : Nat) (v0 v1 v2 v3 : Value) : World := (((w.setCell ⟨g, o, none⟩ v0).setCell ⟨g, o + 1, none⟩ v1).setCell ⟨g, o + 2, none⟩ v2).setCell ⟨g, o + 3, none⟩ v3
theorem four_cells {w : World} {g : Nat} {a0 a1 a2 a3 : Value} {t : TypeId} (h : Block w g [a0, a1, a2, a3] t) (v0 v1 v2 v3 : Value) :
    (w.setCell ⟨g, 0, none⟩ v0).cell? ⟨g, 0, none⟩ = some v0 ∧ ((w.setCell ⟨g, 0, none⟩ v0).setCell ⟨g, 1, none⟩ v1).cell? ⟨g, 1, none⟩ = some v1 ∧ (((w.setCell ⟨g, 0, none⟩ v0).setCell ⟨g, 1, none⟩ v1).setCell ⟨g, 2, none⟩ v2).cell? ⟨g, 2, none⟩ = some v2 ∧
    ((((w.setCell ⟨g, 0, none⟩ v0).setCell ⟨g, 1, none⟩ v1).setCell ⟨g, 2, none⟩ v2).setCell ⟨g, 3, none⟩ v3).cell? ⟨g, 3, none⟩ = some v3 := by
  have h0 := h.set 0 v0
  have h1 := h0.set 1 v1
  have h2 := h1.set 2 v2
  have h3 := h2.set 3 v3
  exact ⟨h0.cell rfl, h1.cell rfl, h2.cell rfl, h3.cell rfl⟩
theorem set4_size (w : World) (g o : Nat) (v0 v1 v2 v3 : Value) : (set4 w g o v0 v1 v2 v3).heap.size = w.heap.size := by simp [set4, World.setCell]
theorem set4_other (w : World) (g o : Nat) (v0 v1 v2 v3 : Value) (k : Nat) (hk : k ≠ g) : (set4 w g o v0 v1 v2 v3).heap[k]? = w.heap[k]? := by
  unfold set4
  rw [Below.heap_setCell _ _ _ _ hk, Below.heap_setCell _ _ _ _ hk, Below.heap_setCell _ _ _ _ hk, Below.heap_setCell _ _ _ _ hk]
theorem set4_below {B : Nat} {a w : World} (h : Below B a w) (g o : Nat) (hg : B ≤ g) (v0 v1 v2 v3 : Value) : Below B a (set4 w g o v0 v1 v2 v3) :=
  (((h.setCell hg v0).setCell hg v1).setCell hg v2).setCell hg v3

set_option maxHeartbeats 4000000 in
theorem copyNode_any (n : Nt) (cs : List Value) (B : Nat) (w : World) (h : IsN B w cs n) (hB : B ≤ w.heap.size) (hs : SmN n) :
    Calls Try.prog 58 #[.agg cs.toArray] w (FreshP IsNO n w) := by
  obtain ⟨la, lc, ka, kc, va, vc, rfl, hid, hsl, hL, hP⟩ := h
  obtain ⟨hll, hsp⟩ := hs
  show Calls Try.prog 58 #[.agg #[.int .i64 n.id, .slice la n.labels.length lc, .slice ka n.keys.length kc, .slice va n.vals.length vc]] w _
  obtain ⟨W0, hW0⟩ : ∃ W0, (w.alloc (.cells #[.int .i64 n.id, .slice la n.labels.length lc, .slice ka n.keys.length kc, .slice va n.vals.length vc] 38)).alloc (.cells #[.int .i64 0, .slice none 0 0, .slice none 0 0, .slice none 0 0] 38) = W0 := ⟨_, rfl⟩
  have hBW : Below w.heap.size w W0 := by rw [← hW0]; exact ((Below.refl _ _).alloc (Nat.le_refl _) _).alloc (by simp) _
  have hX0 : Block W0 w.heap.size [.int .i64 n.id, .slice la n.labels.length lc, .slice ka n.keys.length kc, .slice va n.vals.length vc] 38 := by rw [← hW0]; exact (Block.new w _ _).alloc _
  have hX1 : Block W0 (w.heap.size + 1) [.int .i64 0, .slice none 0 0, .slice none 0 0, .slice none 0 0] 38 := by
    rw [← hW0]
    have := Block.new (w.alloc (.cells #[.int .i64 n.id, .slice la n.labels.length lc, .slice ka n.keys.length kc, .slice va n.vals.length vc] 38)) [.int .i64 0, .slice none 0 0, .slice none 0 0, .slice none 0 0] 38
    simpa using this
  have hz0 : w.heap.size + 2 = W0.heap.size := by rw [← hW0]; simp
  have HCP := Lib.hid (fun (w' : World) (hb : Below w.heap.size w w') => copies_any (hP.below hb hB) (Nat.le_trans hB hb.size) hsp)
  have HCL := Lib.hid (clone_any n.labels la lc B W0 (hL.below hBW hB) (Nat.le_trans hB hBW.size) hsl.2 (by omega))
  have HID := Lib.hid hid
  have HX0 := Lib.hid hX0
  have HX1 := Lib.hid hX1
  have HBW := Lib.hid hBW
  have HZ0 := Lib.hid hz0
  have HW0 := Lib.hid hW0
  clear hX0 hX1 hBW hz0 hW0 hL hP hid hsp
  go_enter Try.func58, Try.ntmps58
  go_wp2_with fail
  rw [HW0.out]
  refine HCL.out.mono ?_
  rintro e w2 ⟨la', lc', bl, rfl, hb2, ho2, hr2, hn2, hz2, hc2⟩
  have hc2 : SlOk la' n.labels.length lc' := ⟨⟨hc2.1, by have := hc2.2; unfold maxLen at this; omega⟩, hz2⟩
  have X2 := HX0.out.below hb2 HX0.out.lt
  have Y2 := HX1.out.below hb2 HX1.out.lt
  obtain ⟨w3, hw3⟩ : ∃ w3, w2.setCell ⟨w.heap.size, 1, none⟩ (.slice la' n.labels.length lc') = w3 := ⟨_, rfl⟩
  have X3 : Block w3 w.heap.size [.int .i64 n.id, .slice la' n.labels.length lc', .slice ka n.keys.length kc, .slice va n.vals.length vc] 38 := by rw [← hw3]; exact X2.set 1 _
  have Y3 : Block w3 (w.heap.size + 1) [.int .i64 0, .slice none 0 0, .slice none 0 0, .slice none 0 0] 38 := by rw [← hw3]; exact Y2.set_other (by simp) _
  have hb3 : Below w.heap.size w w3 := by rw [← hw3]; exact (HBW.out.trans (hb2.mono HBW.out.size)).setCell (Nat.le_refl _) _
  have hz3 : w3.heap.size = w2.heap.size := by rw [← hw3]; simp [World.setCell]
  have hk3 : ∀ q, w.heap.size + 1 < q → w3.heap[q]? = w2.heap[q]? := fun q hq => by rw [← hw3, Below.heap_setCell _ _ _ _ (by show q ≠ w.heap.size; omega)]
  have HCQ := Lib.hid (HCP.out w3 hb3)
  have HE := Lib.hid (show _ ∧ _ ∧ _ ∧ _ ∧ _ from ⟨hb2, ho2, hr2, hn2, hc2⟩)
  have HX3 := Lib.hid X3
  have HY3 := Lib.hid Y3
  have HB3 := Lib.hid hb3
  have HZ3 := Lib.hid hz3
  have HK3 := Lib.hid hk3
  have d0 := X2.cell (i := 0) rfl
  have d1 := X2.cell (i := 1) rfl
  have d2 := X2.cell (i := 2) rfl
  have d3 := X2.cell (i := 3) rfl
  have n1 := X2.free 1
  have HW3 := Lib.hid hw3
  clear hb2 ho2 hr2 hn2 hc2 hz2 X2 Y2 X3 Y3 hb3 hz3 hk3 hw3 HCP
  go_wp2_with fail
  rw [HW3.out]
  refine HCQ.out.mono ?_
  rintro e w4 ⟨ka', kc', va', vc', c1, c2, rfl, hb4, s1, s2, o1, o2, nd, rg⟩
  have X4 := HX3.out.below hb4 HX3.out.lt
  have Y4 := HY3.out.below hb4 HY3.out.lt
  clear d0 d1 d2 d3 n1
  obtain ⟨w6, hw6⟩ : ∃ w6, (w4.setCell ⟨w.heap.size, 2, none⟩ (.slice ka' n.keys.length kc')).setCell ⟨w.heap.size, 3, none⟩ (.slice va' n.vals.length vc') = w6 := ⟨_, rfl⟩
  have h06 : Block w6 w.heap.size [.int .i64 n.id, .slice la' n.labels.length lc', .slice ka' n.keys.length kc', .slice va' n.vals.length vc'] 38 := by rw [← hw6]; exact (X4.set 2 _).set 3 _
  have h16 : Block w6 (w.heap.size + 1) [.int .i64 0, .slice none 0 0, .slice none 0 0, .slice none 0 0] 38 := by rw [← hw6]; exact (Y4.set_other (by simp) _).set_other (by simp) _
  have f2 := X4.free 2
  have f3 := X4.free 3
  have d0 := X4.cell (i := 0) rfl
  have d1 := X4.cell (i := 1) rfl
  have d2 := X4.cell (i := 2) rfl
  have d3 := X4.cell (i := 3) rfl
  have H16 := Lib.hid h16
  have HW6 := Lib.hid hw6
  have x0 := h06.cell (i := 0) rfl
  have z0 := h16.cell (i := 0) rfl
  have n0 := h16.free 0
  have x1 := h06.cell (i := 1) rfl
  have z1 := h16.cell (i := 1) rfl
  have n1 := h16.free 1
  have x2 := h06.cell (i := 2) rfl
  have z2 := h16.cell (i := 2) rfl
  have n2 := h16.free 2
  have x3 := h06.cell (i := 3) rfl
  have z3 := h16.cell (i := 3) rfl
  have n3 := h16.free 3
  obtain ⟨q0, q1, q2, q3⟩ := four_cells h16 (.int .i64 n.id) (.slice la' n.labels.length lc') (.slice ka' n.keys.length kc') (.slice va' n.vals.length vc')
  rw [← hw6] at x0 z0 n0 q0 x1 z1 n1 q1 x2 z2 n2 q2 x3 z3 n3 q3
  have HG := Lib.hid (show _ ∧ _ ∧ _ ∧ _ ∧ _ ∧ _ ∧ _ from ⟨hb4, s1, s2, o1, o2, nd, rg⟩)
  clear hb4 s1 s2 o1 o2 nd rg X4 Y4 h06 h16 hw6
  go_wp2_with fail
  refine bodyPost_ret (by simp [results, Try.results58, go_sem, q0, q1, q2, q3]; rfl) rfl ?_
  rw [HW6.out]
  obtain ⟨hb4, s1, s2, o1, o2, nd, rg⟩ := HG.out
  have hz6 : w6.heap.size = w4.heap.size := by rw [← HW6.out]; simp [World.setCell]
  have hb56 : ∀ q, w.heap.size + 1 < q → w6.heap[q]? = w4.heap[q]? := fun q hq => by
    rw [← HW6.out, Below.heap_setCell _ _ _ _ (by show q ≠ w.heap.size; omega), Below.heap_setCell _ _ _ _ (by show q ≠ w.heap.size; omega)]
  show FreshP _ n w _ (set4 w6 (w.heap.size + 1) 0 (.int .i64 n.id) (.slice la' n.labels.length lc') (.slice ka' n.keys.length kc') (.slice va' n.vals.length vc'))
  obtain ⟨w7, hw7⟩ : ∃ w7, set4 w6 (w.heap.size + 1) 0 (.int .i64 n.id) (.slice la' n.labels.length lc') (.slice ka' n.keys.length kc') (.slice va' n.vals.length vc') = w7 := ⟨_, rfl⟩
  have hz7 : w7.heap.size = w4.heap.size := by rw [← hw7, set4_size, hz6]
  have hb57 : ∀ q, w.heap.size + 1 < q → w7.heap[q]? = w4.heap[q]? := fun q hq => by rw [← hw7, set4_other _ _ _ _ _ _ _  _ (by omega), hb56 q hq]
  have hW0 := HZ0.out
  obtain ⟨hb2, ho2, hr2, hn2, hc2⟩ := HE.out
  have hz3 := HZ3.out
  have hB7 : Below w.heap.size w w7 := by
    rw [← hw7, ← HW6.out]
    exact set4_below (((HB3.out.trans (hb4.mono HB3.out.size)).setCell (Nat.le_refl _) _).setCell (Nat.le_refl _) _) _ _ (by omega) _ _ _ _
  have hz4 := hb4.size
  have hz2 := hb2.size
  rw [hw7]
  refine ⟨_, bl ++ (c1 ++ c2), rfl, hB7, ⟨la', lc', ka', kc', va', vc', bl, c1, c2, rfl, HID.out, ⟨hc2, s1, s2⟩, rfl, ?_, ?_, ?_⟩, ?_, ?_⟩
  · exact ho2.same fun q hq => by
      have := hr2 q hq
      rw [hb57 q (by omega), hb4.block q (by omega), HK3.out q (by omega)]
  · exact o1.same fun q hq => hb57 q (by have := rg q (by simp [hq]); omega)
  · exact o2.same ownIsO fun q hq => hb57 q (by have := rg q (by simp [hq]); omega)
  · refine List.nodup_append.2 ⟨hn2, nd, fun x hx y hy => ?_⟩
    have h1 := (hr2 x hx).2
    have h2 := (rg y hy).1
    omega
  · intro q hq
    rcases List.mem_append.1 hq with hq | hq
    · have := hr2 q hq; omega
    · have := rg q hq; omega

set_option maxHeartbeats 4000000 in
theorem rCopyNode_any (n : Nt) (cs : List Value) (B : Nat) (w : World) (h : IsN B w cs n) (hB : B ≤ w.heap.size) (hs : SmN n) :
    Calls Try.prog 40 #[.agg cs.toArray] w (FreshP IsNO n w) := by
  obtain ⟨la, lc, ka, kc, va, vc, rfl, hid, hsl, hL, hP⟩ := h
  obtain ⟨hll, hsp⟩ := hs
  show Calls Try.prog 40 #[.agg #[.int .i64 n.id, .slice la n.labels.length lc, .slice ka n.keys.length kc, .slice va n.vals.length vc]] w _
  obtain ⟨W0, hW0⟩ : ∃ W0, (w.alloc (.cells #[.int .i64 n.id, .slice la n.labels.length lc, .slice ka n.keys.length kc, .slice va n.vals.length vc] 38)).alloc (.cells #[.int .i64 0, .slice none 0 0, .slice none 0 0, .slice none 0 0] 38) = W0 := ⟨_, rfl⟩
  have hBW : Below w.heap.size w W0 := by rw [← hW0]; exact ((Below.refl _ _).alloc (Nat.le_refl _) _).alloc (by simp) _
  have hX0 : Block W0 w.heap.size [.int .i64 n.id, .slice la n.labels.length lc, .slice ka n.keys.length kc, .slice va n.vals.length vc] 38 := by rw [← hW0]; exact (Block.new w _ _).alloc _
  have hX1 : Block W0 (w.heap.size + 1) [.int .i64 0, .slice none 0 0, .slice none 0 0, .slice none 0 0] 38 := by
    rw [← hW0]
    have := Block.new (w.alloc (.cells #[.int .i64 n.id, .slice la n.labels.length lc, .slice ka n.keys.length kc, .slice va n.vals.length vc] 38)) [.int .i64 0, .slice none 0 0, .slice none 0 0, .slice none 0 0] 38
    simpa using this
  have hz0 : w.heap.size + 2 = W0.heap.size := by rw [← hW0]; simp
  have HCP := Lib.hid (fun (w' : World) (hb : Below w.heap.size w w') => copyProps_any (hP.below hb hB) (Nat.le_trans hB hb.size) hsp)
  have HLS := Lib.hid (show StrRow B W0 la n.labels from hL.below hBW hB)
  have hlz := hsl.2
  obtain ⟨iS, siS, szS, s1S, s2S⟩ := info_parts Try.infoStr
  have HID := Lib.hid hid
  have HX0 := Lib.hid hX0
  have HX1 := Lib.hid hX1
  have HBW := Lib.hid hBW
  have HZ0 := Lib.hid hz0
  have HW0 := Lib.hid hW0
  have e0 := hX0.cell (i := 0) rfl
  have e1 := hX0.cell (i := 1) rfl
  have e2 := hX0.cell (i := 2) rfl
  have e3 := hX0.cell (i := 3) rfl
  clear hX0 hX1 hBW hz0 hW0 hL hP hid hsp
  go_enter Try.func40, Try.ntmps40
  go_wp2_with (at_builtin; change wpList _ _ _ _ _ ((w.alloc (.cells #[.int .i64 n.id, .slice la n.labels.length lc, .slice ka n.keys.length kc, .slice va n.vals.length vc] 38)).alloc (.cells #[.int .i64 0, .slice none 0 0, .slice none 0 0, .slice none 0 0] 38)); rw [HW0.out]; refine append_cells rfl _ _ 35 rfl W0.heap.size 9 iS (.string ⟨#[]⟩) 16 Try.underlying35 siS szS s1S s2S rfl (.slice none 0 0) 0 [] rfl (World.ownsRow_nil _ _ _ _) la n.labels.length lc B (n.labels.map Value.string) rfl hlz (by simp) HLS.out ?c2 ?c3 ?c4 ?c5 ?_)
  case c2 => intro q hq; simp at hq; obtain ⟨z, _, rfl⟩ := hq; rfl
  case c3 => unfold maxLen; omega
  case c4 => omega
  case c5 => exact Nat.le_refl _
  intro v1 w2 hown5 hg5
  have hb2 : Below W0.heap.size W0 w2 := (Below.refl _ _).grown hg5 (Nat.le_refl _) (fun k hk => by simp [Value.ownBlock] at hk)
  obtain ⟨la', lc', bl, rfl, ho2, hr2, hn2, hz2, hc2⟩ := OwnStr.of_own hown5
  have hc2 : SlOk la' n.labels.length lc' := ⟨⟨hc2.1, by have := hc2.2; unfold maxLen at this; omega⟩, hz2⟩
  clear hown5 hg5
  have X2 := HX0.out.below hb2 HX0.out.lt
  have Y2 := HX1.out.below hb2 HX1.out.lt
  obtain ⟨w3, hw3⟩ : ∃ w3, w2.setCell ⟨w.heap.size, 1, none⟩ (.slice la' n.labels.length lc') = w3 := ⟨_, rfl⟩
  have X3 : Block w3 w.heap.size [.int .i64 n.id, .slice la' n.labels.length lc', .slice ka n.keys.length kc, .slice va n.vals.length vc] 38 := by rw [← hw3]; exact X2.set 1 _
  have Y3 : Block w3 (w.heap.size + 1) [.int .i64 0, .slice none 0 0, .slice none 0 0, .slice none 0 0] 38 := by rw [← hw3]; exact Y2.set_other (by simp) _
  have hb3 : Below w.heap.size w w3 := by rw [← hw3]; exact (HBW.out.trans (hb2.mono HBW.out.size)).setCell (Nat.le_refl _) _
  have hz3 : w3.heap.size = w2.heap.size := by rw [← hw3]; simp [World.setCell]
  have hk3 : ∀ q, w.heap.size + 1 < q → w3.heap[q]? = w2.heap[q]? := fun q hq => by rw [← hw3, Below.heap_setCell _ _ _ _ (by show q ≠ w.heap.size; omega)]
  have HCQ := Lib.hid (HCP.out w3 hb3)
  have HE := Lib.hid (show _ ∧ _ ∧ _ ∧ _ ∧ _ from ⟨hb2, ho2, hr2, hn2, hc2⟩)
  have HX3 := Lib.hid X3
  have HY3 := Lib.hid Y3
  have HB3 := Lib.hid hb3
  have HZ3 := Lib.hid hz3
  have HK3 := Lib.hid hk3
  have d0 := X2.cell (i := 0) rfl
  have d1 := X2.cell (i := 1) rfl
  have d2 := X2.cell (i := 2) rfl
  have d3 := X2.cell (i := 3) rfl
  have n1 := X2.free 1
  have HW3 := Lib.hid hw3
  clear hb2 ho2 hr2 hn2 hc2 hz2 X2 Y2 X3 Y3 hb3 hz3 hk3 hw3 HCP
  go_wp2_with fail
  rw [HW3.out]
  refine HCQ.out.mono ?_
  rintro e w4 ⟨ka', kc', va', vc', c1, c2, rfl, hb4, s1, s2, o1, o2, nd, rg⟩
  have X4 := HX3.out.below hb4 HX3.out.lt
  have Y4 := HY3.out.below hb4 HY3.out.lt
  clear d0 d1 d2 d3 n1
  obtain ⟨w6, hw6⟩ : ∃ w6, (w4.setCell ⟨w.heap.size, 2, none⟩ (.slice ka' n.keys.length kc')).setCell ⟨w.heap.size, 3, none⟩ (.slice va' n.vals.length vc') = w6 := ⟨_, rfl⟩
  have h06 : Block w6 w.heap.size [.int .i64 n.id, .slice la' n.labels.length lc', .slice ka' n.keys.length kc', .slice va' n.vals.length vc'] 38 := by rw [← hw6]; exact (X4.set 2 _).set 3 _
  have h16 : Block w6 (w.heap.size + 1) [.int .i64 0, .slice none 0 0, .slice none 0 0, .slice none 0 0] 38 := by rw [← hw6]; exact (Y4.set_other (by simp) _).set_other (by simp) _
  have f2 := X4.free 2
  have f3 := X4.free 3
  have d0 := X4.cell (i := 0) rfl
  have d1 := X4.cell (i := 1) rfl
  have d2 := X4.cell (i := 2) rfl
  have d3 := X4.cell (i := 3) rfl
  have H16 := Lib.hid h16
  have HW6 := Lib.hid hw6
  have x0 := h06.cell (i := 0) rfl
  have z0 := h16.cell (i := 0) rfl
  have n0 := h16.free 0
  have x1 := h06.cell (i := 1) rfl
  have z1 := h16.cell (i := 1) rfl
  have n1 := h16.free 1
  have x2 := h06.cell (i := 2) rfl
  have z2 := h16.cell (i := 2) rfl
  have n2 := h16.free 2
  have x3 := h06.cell (i := 3) rfl
  have z3 := h16.cell (i := 3) rfl
  have n3 := h16.free 3
  obtain ⟨q0, q1, q2, q3⟩ := four_cells h16 (.int .i64 n.id) (.slice la' n.labels.length lc') (.slice ka' n.keys.length kc') (.slice va' n.vals.length vc')
  rw [← hw6] at x0 z0 n0 q0 x1 z1 n1 q1 x2 z2 n2 q2 x3 z3 n3 q3
  have HG := Lib.hid (show _ ∧ _ ∧ _ ∧ _ ∧ _ ∧ _ ∧ _ from ⟨hb4, s1, s2, o1, o2, nd, rg⟩)
  clear hb4 s1 s2 o1 o2 nd rg X4 Y4 h06 h16 hw6
  go_wp2_with fail
  refine bodyPost_ret (by simp [results, Try.results40, go_sem, q0, q1, q2, q3]; rfl) rfl ?_
  rw [HW6.out]
  obtain ⟨hb4, s1, s2, o1, o2, nd, rg⟩ := HG.out
  have hz6 : w6.heap.size = w4.heap.size := by rw [← HW6.out]; simp [World.setCell]
  have hb56 : ∀ q, w.heap.size + 1 < q → w6.heap[q]? = w4.heap[q]? := fun q hq => by
    rw [← HW6.out, Below.heap_setCell _ _ _ _ (by show q ≠ w.heap.size; omega), Below.heap_setCell _ _ _ _ (by show q ≠ w.heap.size; omega)]
  show FreshP _ n w _ (set4 w6 (w.heap.size + 1) 0 (.int .i64 n.id) (.slice la' n.labels.length lc') (.slice ka' n.keys.length kc') (.slice va' n.vals.length vc'))
  obtain ⟨w7, hw7⟩ : ∃ w7, set4 w6 (w.heap.size + 1) 0 (.int .i64 n.id) (.slice la' n.labels.length lc') (.slice ka' n.keys.length kc') (.slice va' n.vals.length vc') = w7 := ⟨_, rfl⟩
  have hz7 : w7.heap.size = w4.heap.size := by rw [← hw7, set4_size, hz6]
  have hb57 : ∀ q, w.heap.size + 1 < q → w7.heap[q]? = w4.heap[q]? := fun q hq => by rw [← hw7, set4_other _ _ _ _ _ _ _  _ (by omega), hb56 q hq]
  have hW0 := HZ0.out
  obtain ⟨hb2, ho2, hr2, hn2, hc2⟩ := HE.out
  have hz3 := HZ3.out
  have hB7 : Below w.heap.size w w7 := by
    rw [← hw7, ← HW6.out]
    exact set4_below (((HB3.out.trans (hb4.mono HB3.out.size)).setCell (Nat.le_refl _) _).setCell (Nat.le_refl _) _) _ _ (by omega) _ _ _ _
  have hz4 := hb4.size
  have hz2 := hb2.size
  rw [hw7]
  refine ⟨_, bl ++ (c1 ++ c2), rfl, hB7, ⟨la', lc', ka', kc', va', vc', bl, c1, c2, rfl, HID.out, ⟨hc2, s1, s2⟩, rfl, ?_, ?_, ?_⟩, ?_, ?_⟩
  · exact ho2.same fun q hq => by
      have := hr2 q hq
      rw [hb57 q (by omega), hb4.block q (by omega), HK3.out q (by omega)]
  · exact o1.same fun q hq => hb57 q (by have := rg q (by simp [hq]); omega)
  · exact o2.same ownIsO fun q hq => hb57 q (by have := rg q (by simp [hq]); omega)
  · refine List.nodup_append.2 ⟨hn2, nd, fun x hx y hy => ?_⟩
    have h1 := (hr2 x hx).2
    have h2 := (rg y hy).1
    omega
  · intro q hq
    rcases List.mem_append.1 hq with hq | hq
    · have := hr2 q hq; omega
    · have := rg q hq; omega

set_option maxHeartbeats 4000000 in
theorem copyEdge_any (n : Et) (cs : List Value) (B : Nat) (w : World) (h : IsE B w cs n) (hB : B ≤ w.heap.size) (hs : SmE n) :
    Calls Try.prog 59 #[.agg cs.toArray] w (FreshP IsEO n w) := by
  obtain ⟨ka, kc, va, vc, rfl, hid, hP⟩ := h
  show Calls Try.prog 59 #[.agg #[.int .i64 n.id, .int .i64 n.src, .int .i64 n.dst, .string n.ty, .slice ka n.keys.length kc, .slice va n.vals.length vc]] w _
  obtain ⟨W0, hW0⟩ : ∃ W0, (w.alloc (.cells #[.int .i64 n.id, .int .i64 n.src, .int .i64 n.dst, .string n.ty, .slice ka n.keys.length kc, .slice va n.vals.length vc] 40)).alloc (.cells #[.int .i64 0, .int .i64 0, .int .i64 0, .string ⟨#[]⟩, .slice none 0 0, .slice none 0 0] 40) = W0 := ⟨_, rfl⟩
  have hBW : Below w.heap.size w W0 := by rw [← hW0]; exact ((Below.refl _ _).alloc (Nat.le_refl _) _).alloc (by simp) _
  have hX0 : Block W0 w.heap.size [.int .i64 n.id, .int .i64 n.src, .int .i64 n.dst, .string n.ty, .slice ka n.keys.length kc, .slice va n.vals.length vc] 40 := by rw [← hW0]; exact (Block.new w _ _).alloc _
  have hX1 : Block W0 (w.heap.size + 1) [.int .i64 0, .int .i64 0, .int .i64 0, .string ⟨#[]⟩, .slice none 0 0, .slice none 0 0] 40 := by
    rw [← hW0]
    have := Block.new (w.alloc (.cells #[.int .i64 n.id, .int .i64 n.src, .int .i64 n.dst, .string n.ty, .slice ka n.keys.length kc, .slice va n.vals.length vc] 40)) [.int .i64 0, .int .i64 0, .int .i64 0, .string ⟨#[]⟩, .slice none 0 0, .slice none 0 0] 40
    simpa using this
  have hz0 : w.heap.size + 2 = W0.heap.size := by rw [← hW0]; simp
  have HCP := Lib.hid (copies_any (hP.below hBW hB) (Nat.le_trans hB hBW.size) hs)
  have HID := Lib.hid hid
  have HX0 := Lib.hid hX0
  have HX1 := Lib.hid hX1
  have HBW := Lib.hid hBW
  have HZ0 := Lib.hid hz0
  have HW0 := Lib.hid hW0
  clear hX0 hX1 hBW hz0 hW0 hP hid hs
  go_enter Try.func59, Try.ntmps59
  go_wp2_with fail
  rw [HW0.out]
  refine HCP.out.mono ?_
  rintro e w4 ⟨ka', kc', va', vc', c1, c2, rfl, hb4, s1, s2, o1, o2, nd, rg⟩
  have X4 := HX0.out.below hb4 HX0.out.lt
  have Y4 := HX1.out.below hb4 HX1.out.lt
  obtain ⟨w6, hw6⟩ : ∃ w6, (w4.setCell ⟨w.heap.size, 4, none⟩ (.slice ka' n.keys.length kc')).setCell ⟨w.heap.size, 5, none⟩ (.slice va' n.vals.length vc') = w6 := ⟨_, rfl⟩
  have h06 : Block w6 w.heap.size [.int .i64 n.id, .int .i64 n.src, .int .i64 n.dst, .string n.ty, .slice ka' n.keys.length kc', .slice va' n.vals.length vc'] 40 := by rw [← hw6]; exact (X4.set 4 _).set 5 _
  have h16 : Block w6 (w.heap.size + 1) [.int .i64 0, .int .i64 0, .int .i64 0, .string ⟨#[]⟩, .slice none 0 0, .slice none 0 0] 40 := by rw [← hw6]; exact (Y4.set_other (by simp) _).set_other (by simp) _
  have f4 := X4.free 4
  have f5 := X4.free 5
  have d0 := X4.cell (i := 0) rfl
  have d1 := X4.cell (i := 1) rfl
  have d2 := X4.cell (i := 2) rfl
  have d3 := X4.cell (i := 3) rfl
  have d4 := X4.cell (i := 4) rfl
  have d5 := X4.cell (i := 5) rfl
  have H16 := Lib.hid h16
  have HW6 := Lib.hid hw6
  have x0 := h06.cell (i := 0) rfl
  have z0 := h16.cell (i := 0) rfl
  have n0 := h16.free 0
  have x1 := h06.cell (i := 1) rfl
  have z1 := h16.cell (i := 1) rfl
  have n1 := h16.free 1
  have x2 := h06.cell (i := 2) rfl
  have z2 := h16.cell (i := 2) rfl
  have n2 := h16.free 2
  have x3 := h06.cell (i := 3) rfl
  have z3 := h16.cell (i := 3) rfl
  have n3 := h16.free 3
  have x4 := h06.cell (i := 4) rfl
  have z4 := h16.cell (i := 4) rfl
  have n4 := h16.free 4
  have x5 := h06.cell (i := 5) rfl
  have z5 := h16.cell (i := 5) rfl
  have n5 := h16.free 5
  obtain ⟨q0, q1, q2, q3, q4, q5⟩ := six_cells h16 (.int .i64 n.id) (.int .i64 n.src) (.int .i64 n.dst) (.string n.ty) (.slice ka' n.keys.length kc') (.slice va' n.vals.length vc')
  rw [← hw6] at x0 z0 n0 q0 x1 z1 n1 q1 x2 z2 n2 q2 x3 z3 n3 q3 x4 z4 n4 q4 x5 z5 n5 q5
  have HG := Lib.hid (show _ ∧ _ ∧ _ ∧ _ ∧ _ ∧ _ ∧ _ from ⟨hb4, s1, s2, o1, o2, nd, rg⟩)
  clear hb4 s1 s2 o1 o2 nd rg X4 Y4 h06 h16 hw6
  go_wp2_with fail
  refine bodyPost_ret (by simp [results, Try.results59, go_sem, q0, q1, q2, q3, q4, q5]; rfl) rfl ?_
  rw [HW6.out]
  obtain ⟨hb4, s1, s2, o1, o2, nd, rg⟩ := HG.out
  have hz6 : w6.heap.size = w4.heap.size := by rw [← HW6.out]; simp [World.setCell]
  have hb56 : ∀ q, w.heap.size + 1 < q → w6.heap[q]? = w4.heap[q]? := fun q hq => by
    rw [← HW6.out, Below.heap_setCell _ _ _ _ (by show q ≠ w.heap.size; omega), Below.heap_setCell _ _ _ _ (by show q ≠ w.heap.size; omega)]
  show FreshP _ n w _ (set6 w6 (w.heap.size + 1) 0 (.int .i64 n.id) (.int .i64 n.src) (.int .i64 n.dst) (.string n.ty) (.slice ka' n.keys.length kc') (.slice va' n.vals.length vc'))
  obtain ⟨w7, hw7⟩ : ∃ w7, set6 w6 (w.heap.size + 1) 0 (.int .i64 n.id) (.int .i64 n.src) (.int .i64 n.dst) (.string n.ty) (.slice ka' n.keys.length kc') (.slice va' n.vals.length vc') = w7 := ⟨_, rfl⟩
  have hz7 : w7.heap.size = w4.heap.size := by rw [← hw7, set6_size, hz6]
  have hb57 : ∀ q, w.heap.size + 1 < q → w7.heap[q]? = w4.heap[q]? := fun q hq => by rw [← hw7, set6_other _ _ _ _ _ _ _ _ _  _ (by omega), hb56 q hq]
  have hW0 := HZ0.out
  have hB7 : Below w.heap.size w w7 := by
    rw [← hw7, ← HW6.out]
    exact set6_below (((HBW.out.trans (hb4.mono HBW.out.size)).setCell (Nat.le_refl _) _).setCell (Nat.le_refl _) _) _ _ (by omega) _ _ _ _ _ _
  have hz4 := hb4.size
  rw [hw7]
  refine ⟨_, c1 ++ c2, rfl, hB7, ⟨ka', kc', va', vc', c1, c2, rfl, HID.out, ⟨s1, s2⟩, rfl, ?_, ?_⟩, nd, ?_⟩
  · exact o1.same fun q hq => hb57 q (by have := rg q (by simp [hq]); omega)
  · exact o2.same ownIsO fun q hq => hb57 q (by have := rg q (by simp [hq]); omega)
  · intro q hq
    have := rg q hq; omega

set_option maxHeartbeats 4000000 in
theorem rCopyEdge_any (n : Et) (cs : List Value) (B : Nat) (w : World) (h : IsE B w cs n) (hB : B ≤ w.heap.size) (hs : SmE n) :
    Calls Try.prog 41 #[.agg cs.toArray] w (FreshP IsEO n w) := by
  obtain ⟨ka, kc, va, vc, rfl, hid, hP⟩ := h
  show Calls Try.prog 41 #[.agg #[.int .i64 n.id, .int .i64 n.src, .int .i64 n.dst, .string n.ty, .slice ka n.keys.length kc, .slice va n.vals.length vc]] w _
  obtain ⟨W0, hW0⟩ : ∃ W0, (w.alloc (.cells #[.int .i64 n.id, .int .i64 n.src, .int .i64 n.dst, .string n.ty, .slice ka n.keys.length kc, .slice va n.vals.length vc] 40)).alloc (.cells #[.int .i64 0, .int .i64 0, .int .i64 0, .string ⟨#[]⟩, .slice none 0 0, .slice none 0 0] 40) = W0 := ⟨_, rfl⟩
  have hBW : Below w.heap.size w W0 := by rw [← hW0]; exact ((Below.refl _ _).alloc (Nat.le_refl _) _).alloc (by simp) _
  have hX0 : Block W0 w.heap.size [.int .i64 n.id, .int .i64 n.src, .int .i64 n.dst, .string n.ty, .slice ka n.keys.length kc, .slice va n.vals.length vc] 40 := by rw [← hW0]; exact (Block.new w _ _).alloc _
  have hX1 : Block W0 (w.heap.size + 1) [.int .i64 0, .int .i64 0, .int .i64 0, .string ⟨#[]⟩, .slice none 0 0, .slice none 0 0] 40 := by
    rw [← hW0]
    have := Block.new (w.alloc (.cells #[.int .i64 n.id, .int .i64 n.src, .int .i64 n.dst, .string n.ty, .slice ka n.keys.length kc, .slice va n.vals.length vc] 40)) [.int .i64 0, .int .i64 0, .int .i64 0, .string ⟨#[]⟩, .slice none 0 0, .slice none 0 0] 40
    simpa using this
  have hz0 : w.heap.size + 2 = W0.heap.size := by rw [← hW0]; simp
  have HCP := Lib.hid (copyProps_any (hP.below hBW hB) (Nat.le_trans hB hBW.size) hs)
  have HID := Lib.hid hid
  have HX0 := Lib.hid hX0
  have HX1 := Lib.hid hX1
  have HBW := Lib.hid hBW
  have HZ0 := Lib.hid hz0
  have HW0 := Lib.hid hW0
  clear hX0 hX1 hBW hz0 hW0 hP hid hs
  go_enter Try.func41, Try.ntmps41
  go_wp2_with fail
  rw [HW0.out]
  refine HCP.out.mono ?_
  rintro e w4 ⟨ka', kc', va', vc', c1, c2, rfl, hb4, s1, s2, o1, o2, nd, rg⟩
  have X4 := HX0.out.below hb4 HX0.out.lt
  have Y4 := HX1.out.below hb4 HX1.out.lt
  obtain ⟨w6, hw6⟩ : ∃ w6, (w4.setCell ⟨w.heap.size, 4, none⟩ (.slice ka' n.keys.length kc')).setCell ⟨w.heap.size, 5, none⟩ (.slice va' n.vals.length vc') = w6 := ⟨_, rfl⟩
  have h06 : Block w6 w.heap.size [.int .i64 n.id, .int .i64 n.src, .int .i64 n.dst, .string n.ty, .slice ka' n.keys.length kc', .slice va' n.vals.length vc'] 40 := by rw [← hw6]; exact (X4.set 4 _).set 5 _
  have h16 : Block w6 (w.heap.size + 1) [.int .i64 0, .int .i64 0, .int .i64 0, .string ⟨#[]⟩, .slice none 0 0, .slice none 0 0] 40 := by rw [← hw6]; exact (Y4.set_other (by simp) _).set_other (by simp) _
  have f4 := X4.free 4
  have f5 := X4.free 5
  have d0 := X4.cell (i := 0) rfl
  have d1 := X4.cell (i := 1) rfl
  have d2 := X4.cell (i := 2) rfl
  have d3 := X4.cell (i := 3) rfl
  have d4 := X4.cell (i := 4) rfl
  have d5 := X4.cell (i := 5) rfl
  have H16 := Lib.hid h16
  have HW6 := Lib.hid hw6
  have x0 := h06.cell (i := 0) rfl
  have z0 := h16.cell (i := 0) rfl
  have n0 := h16.free 0
  have x1 := h06.cell (i := 1) rfl
  have z1 := h16.cell (i := 1) rfl
  have n1 := h16.free 1
  have x2 := h06.cell (i := 2) rfl
  have z2 := h16.cell (i := 2) rfl
  have n2 := h16.free 2
  have x3 := h06.cell (i := 3) rfl
  have z3 := h16.cell (i := 3) rfl
  have n3 := h16.free 3
  have x4 := h06.cell (i := 4) rfl
  have z4 := h16.cell (i := 4) rfl
  have n4 := h16.free 4
  have x5 := h06.cell (i := 5) rfl
  have z5 := h16.cell (i := 5) rfl
  have n5 := h16.free 5
  obtain ⟨q0, q1, q2, q3, q4, q5⟩ := six_cells h16 (.int .i64 n.id) (.int .i64 n.src) (.int .i64 n.dst) (.string n.ty) (.slice ka' n.keys.length kc') (.slice va' n.vals.length vc')
  rw [← hw6] at x0 z0 n0 q0 x1 z1 n1 q1 x2 z2 n2 q2 x3 z3 n3 q3 x4 z4 n4 q4 x5 z5 n5 q5
  have HG := Lib.hid (show _ ∧ _ ∧ _ ∧ _ ∧ _ ∧ _ ∧ _ from ⟨hb4, s1, s2, o1, o2, nd, rg⟩)
  clear hb4 s1 s2 o1 o2 nd rg X4 Y4 h06 h16 hw6
  go_wp2_with fail
  refine bodyPost_ret (by simp [results, Try.results41, go_sem, q0, q1, q2, q3, q4, q5]; rfl) rfl ?_
  rw [HW6.out]
  obtain ⟨hb4, s1, s2, o1, o2, nd, rg⟩ := HG.out
  have hz6 : w6.heap.size = w4.heap.size := by rw [← HW6.out]; simp [World.setCell]
  have hb56 : ∀ q, w.heap.size + 1 < q → w6.heap[q]? = w4.heap[q]? := fun q hq => by
    rw [← HW6.out, Below.heap_setCell _ _ _ _ (by show q ≠ w.heap.size; omega), Below.heap_setCell _ _ _ _ (by show q ≠ w.heap.size; omega)]
  show FreshP _ n w _ (set6 w6 (w.heap.size + 1) 0 (.int .i64 n.id) (.int .i64 n.src) (.int .i64 n.dst) (.string n.ty) (.slice ka' n.keys.length kc') (.slice va' n.vals.length vc'))
  obtain ⟨w7, hw7⟩ : ∃ w7, set6 w6 (w.heap.size + 1) 0 (.int .i64 n.id) (.int .i64 n.src) (.int .i64 n.dst) (.string n.ty) (.slice ka' n.keys.length kc') (.slice va' n.vals.length vc') = w7 := ⟨_, rfl⟩
  have hz7 : w7.heap.size = w4.heap.size := by rw [← hw7, set6_size, hz6]
  have hb57 : ∀ q, w.heap.size + 1 < q → w7.heap[q]? = w4.heap[q]? := fun q hq => by rw [← hw7, set6_other _ _ _ _ _ _ _ _ _  _ (by omega), hb56 q hq]
  have hW0 := HZ0.out
  have hB7 : Below w.heap.size w w7 := by
    rw [← hw7, ← HW6.out]
    exact set6_below (((HBW.out.trans (hb4.mono HBW.out.size)).setCell (Nat.le_refl _) _).setCell (Nat.le_refl _) _) _ _ (by omega) _ _ _ _ _ _
  have hz4 := hb4.size
  rw [hw7]
  refine ⟨_, c1 ++ c2, rfl, hB7, ⟨ka', kc', va', vc', c1, c2, rfl, HID.out, ⟨s1, s2⟩, rfl, ?_, ?_⟩, nd, ?_⟩
  · exact o1.same fun q hq => hb57 q (by have := rg q (by simp [hq]); omega)
  · exact o2.same ownIsO fun q hq => hb57 q (by have := rg q (by simp [hq]); omega)
  · intro q hq
    have := rg q hq; omega
end Go.Proofs.Ytoakloicjlfaaaa

/- Layer 14: a graph that is built in a box, row by row. Conditions: none. -/
namespace Go.Proofs.Ytoakloicjlfaaaa
open Go.RowKit
set_option linter.unusedSimpArgs false
set_option linter.unusedVariables false

theorem cell_heap {u u' : World} {b o : Nat} (h : u'.heap[b]? = u.heap[b]?) : u'.cell? ⟨b, o, none⟩ = u.cell? ⟨b, o, none⟩ := by
  simp [World.cell?, h]
/-- A box bO that holds bv beside other things, and a row lv that grows beside it. -/
structure OutS {α : Type} (R : World → List Value → α → List Nat → Prop) (ty : TypeId) (size : Nat) (W : World) (bO k : Nat) (bt : TypeId) (cells : Value → List Value) (u : World) (bv lv : Value) (j : Nat) (cl : List Value) (l : List α) (bs : List Nat) : Prop where
  blk : Block u bO (cells bv) bt
  row : RowG R ty size W.heap.size u lv j cl l bs
  kept : Kept [bO] W u
  lt : bO < W.heap.size
section
variable {α : Type} {R : World → List Value → α → List Nat → Prop} {ty bt : TypeId} {size : Nat} {W : World} {bO k : Nat} {cells : Value → List Value} {u u1 w3 : World} {bv lv v : Value} {j g : Nat} {cl cs : List Value} {l : List α} {bs bs2 : List Nat} {t : α} {Y : Obj}
theorem OutS.drew (hR : OwnElem R size) (h : OutS R ty size W bO k bt cells u bv lv j cl l bs) : OutS R ty size W bO k bt cells u.drew bv lv j cl l bs :=
  ⟨h.blk, h.row.same hR (Below.refl _ _).drew, h.kept.drew, h.lt⟩
theorem OutS.below (hR : OwnElem R size) (h : OutS R ty size W bO k bt cells u bv lv j cl l bs) (hb : Below u.heap.size u u1) : OutS R ty size W bO k bt cells u1 bv lv j cl l bs :=
  ⟨h.blk.below hb h.blk.lt, h.row.same hR hb, h.kept.trans (Kept.of_below (own := [bO]) hb) (fun x hx => .inl hx), h.lt⟩
theorem OutS.app (hR : OwnElem R size) (h : OutS R ty size W bO k bt cells u bv lv j cl l bs) (hb : Below u.heap.size u u1) (ho : R u1 cs t bs2) (hn : bs2.Nodup) (hr : ∀ b ∈ bs2, u.heap.size ≤ b ∧ b < u1.heap.size)
    (hown : w3.ownsRow W.heap.size ty size v (j + 1) (cl ++ cs)) (hg : (u1.alloc Y).grownBy w3 lv.ownBlock) (hv : v.ownBlock = some g) (hat : lv.ownBlock = some g ∨ g = u1.heap.size + 1) : OutS R ty size W bO k bt cells w3 bv v (j + 1) (cl ++ cs) (l ++ [t]) (bs ++ bs2) := by
  have h1 := h.below hR hb
  have hk : w3.heap[bO]? = u1.heap[bO]? := by
    have hz := h1.blk.lt
    rw [hg.block bO (by simp; omega) (fun e => by have := (h.row.own.lt bO e.symm).1; have := h.lt; omega)]
    exact Below.heap_alloc _ _ _ hz
  refine ⟨h1.blk.of_heap hk, h.row.step hR hb h.kept.size ho hn hr hown hg hv hat, ?_, h.lt⟩
  exact (h1.kept.alloc Y).grown hg (fun q hq => .inr (h.row.own.lt q hq).1)
theorem OutS.put (hR : OwnElem R size) (h : OutS R ty size W bO k bt cells u bv lv j cl l bs) (hc : (cells bv).set k lv = cells lv) : OutS R ty size W bO k bt cells (u.setCell ⟨bO, k, none⟩ lv) lv lv j cl l bs := by
  have hne : ∀ q, q ≠ bO → (u.setCell ⟨bO, k, none⟩ lv).heap[q]? = u.heap[q]? := fun q hq => Below.heap_setCell _ _ _ _ hq
  have hz : (u.setCell ⟨bO, k, none⟩ lv).heap.size = u.heap.size := by simp [World.setCell]
  refine ⟨by have := h.blk.set k lv; rwa [hc] at this, ?_, h.kept.setCell (.inl (by simp)) _, h.lt⟩
  exact ⟨own_of_heap h.row.own fun q e => hne q (by have := (h.row.own.lt q e).1; have := h.lt; omega), h.row.os.same hR l 0 bs (fun b hb => hne b (by have := (h.row.lt b hb).1; have := h.lt; omega)), h.row.nd, fun b hb => by rw [hz]; exact h.row.lt b hb, h.row.ne, h.row.len⟩
end
theorem Try.infoNode : (Try.prog.info? 38).map (fun i => (i.zero, i.size, i.bytes)) = some (some (.agg #[.int .i64 0, .slice none 0 0, .slice none 0 0, .slice none 0 0]), 4, 80) := by kernel_rfl
theorem Try.infoEdge : (Try.prog.info? 40).map (fun i => (i.zero, i.size, i.bytes)) = some (some (.agg #[.int .i64 0, .int .i64 0, .int .i64 0, .string ⟨#[]⟩, .slice none 0 0, .slice none 0 0]), 6, 88) := by kernel_rfl
end Go.Proofs.Ytoakloicjlfaaaa

/- Layer 14: a graph in new memory: the program's Copy, the reference's. Conditions: the graph is small. -/
namespace Go.Proofs.Ytoakloicjlfaaaa
open Go.RowKit
set_option linter.unusedSimpArgs false
set_option linter.unusedVariables false
set_option maxRecDepth 100000

/-- A graph that is small enough to be copied. -/
def SmG (g : Gt) : Prop := (g.nodes.length ≤ 1048576 ∧ g.edges.length ≤ 1048576) ∧ (∀ (j : Nat) n, g.nodes[j]? = some n → SmN n) ∧ ∀ (j : Nat) e, g.edges[j]? = some e → SmE e
theorem FreshP.graph {g : Gt} {w w' W2 : World} {na ea : Option Addr} {nc ec : Nat} {b1 b2 : List Nat} {B0 : Nat} (hb : Below w.heap.size w w') (hn : SlOk na g.nodes.length nc) (he : SlOk ea g.edges.length ec) (h1 : OwnRw IsNO 4 w' na g.nodes b1) (h2 : OwnRw IsEO 6 w' ea g.edges b2)
    (n1 : b1.Nodup) (n2 : b2.Nodup) (r1 : ∀ b ∈ b1, w.heap.size ≤ b ∧ b < w'.heap.size ∧ b < B0) (r2 : ∀ b ∈ b2, w.heap.size ≤ b ∧ b < w'.heap.size ∧ B0 ≤ b) : FreshP IsGO g w (.returned (.agg #[.slice na g.nodes.length nc, .slice ea g.edges.length ec])) w' := by
  refine ⟨[.slice na g.nodes.length nc, .slice ea g.edges.length ec], b1 ++ b2, rfl, hb, ⟨na, nc, ea, ec, b1, b2, rfl, ⟨hn, he⟩, rfl, h1, h2⟩, List.nodup_append.2 ⟨n1, n2, fun x hx y hy => ?_⟩, fun b hm => ?_⟩
  · have := r1 x hx; have := r2 y hy; omega
  · rcases List.mem_append.1 hm with h | h
    · exact ⟨(r1 b h).1, (r1 b h).2.1⟩
    · exact ⟨(r2 b h).1, (r2 b h).2.1⟩
theorem RowG.frame {α : Type} {R : World → List Value → α → List Nat → Prop} {size : Nat} (hR : OwnElem R size) {ty : TypeId} {B : Nat} {wr w' : World} {lv : Value} {j : Nat} {cl : List Value} {l : List α} {bs : List Nat} (h : RowG R ty size B wr lv j cl l bs) (hs : ∀ q, B ≤ q → q < wr.heap.size → w'.heap[q]? = wr.heap[q]?) (hz : wr.heap.size ≤ w'.heap.size) : RowG R ty size B w' lv j cl l bs :=
  ⟨own_of_heap h.own fun k e => hs k (h.own.lt k e).1 (h.own.lt k e).2, h.os.same hR l 0 bs fun b hb' => hs b (h.lt b hb').1 (h.lt b hb').2, h.nd, fun b hb' => ⟨(h.lt b hb').1, Nat.lt_of_lt_of_le (h.lt b hb').2 hz⟩, h.ne, h.len⟩
theorem RowG.base {α : Type} {R : World → List Value → α → List Nat → Prop} {size : Nat} {ty : TypeId} {B b : Nat} {wr : World} {lv : Value} {j : Nat} {cl : List Value} {l : List α} {bs : List Nat} (h : RowG R ty size B wr lv j cl l bs) (hb : b ≤ B) : RowG R ty size b wr lv j cl l bs :=
  ⟨by
    obtain ⟨h1, h2⟩ := h.own
    refine ⟨h1, ?_⟩
    rcases h2 with h2 | ⟨g, cap, cur, e1, e2, e3⟩
    · exact .inl h2
    · exact .inr ⟨g, cap, cur, e1, Nat.le_trans hb e2, e3⟩, h.os, h.nd, fun q hq => ⟨Nat.le_trans hb (h.lt q hq).1, (h.lt q hq).2⟩, h.ne, h.len⟩
theorem RowG.partB {α : Type} {R : World → List Value → α → List Nat → Prop} {size : Nat} (hR : OwnElem R size) {ty : TypeId} {B : Nat} {wr : World} {lv : Value} {j : Nat} {cl : List Value} {l : List α} {bs : List Nat} (h : RowG R ty size B wr lv j cl l bs) :
    ∃ la lc b2, lv = .slice la j lc ∧ SlOk la j lc ∧ OwnRw R size wr la l b2 ∧ b2.Nodup ∧ (∀ b ∈ b2, B ≤ b ∧ b < wr.heap.size) ∧ ∀ b ∈ b2, b ∈ bs ∨ lv.ownBlock = some b := by
  obtain ⟨h1, h2⟩ := h.own
  rcases h2 with ⟨rfl, h3⟩ | ⟨g, cap, cur, rfl, hb, hh, hn, hm, hs, ht⟩
  · have hl : l = [] := List.eq_nil_of_length_eq_zero (by rw [h.len]; exact h3)
    exact ⟨none, 0, [], by rw [h3], ⟨⟨by omega, by omega⟩, fun _ => rfl⟩, .inl ⟨hl, rfl⟩, List.nodup_nil, by simp, by simp⟩
  · refine ⟨some ⟨g, 0, none⟩, cap, g :: bs, rfl, ⟨⟨hn, by unfold maxLen at hm; omega⟩, (fun e => by cases e)⟩, .inr ⟨g, cur.toList, ty, bs, rfl, rfl, by unfold Block; simpa using hh, ?_⟩, List.nodup_cons.2 ⟨fun hm => h.ne g hm rfl, h.nd⟩, ?_, ?_⟩
    · refine h.os.cur hR l 0 bs (fun q _ hq => ?_)
      rw [Nat.zero_add] at hq
      rw [← ht, List.getElem?_take_of_lt (by rw [← h.len]; omega)]
    · intro b hm2
      rcases List.mem_cons.1 hm2 with rfl | hm2
      · exact ⟨hb, (Array.getElem?_eq_some_iff.1 hh).1⟩
      · exact h.lt b hm2
    · intro b hm2
      rcases List.mem_cons.1 hm2 with rfl | hm2
      · exact .inr rfl
      · exact .inl hm2
/-- What comes is g in new memory; its rows may be appended to. -/
def FreshG (g : Gt) (w : World) (e : Ending) (w' : World) : Prop :=
  ∃ na nc ea ec c1 c2 b1 b2 M, e = .returned (.agg #[.slice na g.nodes.length nc, .slice ea g.edges.length ec]) ∧ Below w.heap.size w w' ∧ RowG IsNO 38 4 w.heap.size w' (.slice na g.nodes.length nc) g.nodes.length c1 g.nodes b1 ∧
    (∀ q, q ∈ b1 ∨ (Value.slice na g.nodes.length nc).ownBlock = some q → q < M) ∧ RowG IsEO 40 6 M w' (.slice ea g.edges.length ec) g.edges.length c2 g.edges b2 ∧ w.heap.size ≤ M
theorem FreshG.fresh {g : Gt} {w w' : World} {e : Ending} (h : FreshG g w e w') : FreshP IsGO g w e w' := by
  obtain ⟨na, nc, ea, ec, c1, c2, b1, b2, M, rfl, hb, h1, h2, h3, h4⟩ := h
  obtain ⟨na2, nc2, b3, e1, s1, o1, n1, r1, m1⟩ := h1.partB ownIsNO
  obtain ⟨ea2, ec2, b4, e2, s2, o2, n2, r2, -⟩ := h3.partB ownIsEO
  injection e1 with e1 _ e3
  injection e2 with e2 _ e4
  subst e1 e2 e3 e4
  exact FreshP.graph (W2 := w') (B0 := M) hb s1 s2 o1 o2 n1 n2 (fun q hq => ⟨(r1 q hq).1, (r1 q hq).2, h2 q (m1 q hq)⟩) (fun q hq => ⟨Nat.le_trans h4 (r2 q hq).1, (r2 q hq).2, (r2 q hq).1⟩)
theorem two_cells {w : World} {g : Nat} {a0 a1 : Value} {t : TypeId} (h : Block w g [a0, a1] t) (v0 v1 : Value) :
    (w.setCell ⟨g, 0, none⟩ v0).cell? ⟨g, 0, none⟩ = some v0 ∧ ((w.setCell ⟨g, 0, none⟩ v0).setCell ⟨g, 1, none⟩ v1).cell? ⟨g, 1, none⟩ = some v1 := by
  have h0 := h.set 0 v0
  have h1 := h0.set 1 v1
  exact ⟨h0.cell rfl, h1.cell rfl⟩
theorem node_cells {B : Nat} {w : World} {cs : List Value} {n : Nt} (h : IsN B w cs n) : ∃ la lc ka kc va vc, cs = [.int .i64 n.id, .slice la n.labels.length lc, .slice ka n.keys.length kc, .slice va n.vals.length vc] := by
  obtain ⟨la, lc, ka, kc, va, vc, h, _⟩ := h
  exact ⟨la, lc, ka, kc, va, vc, h⟩
theorem edge_cells {B : Nat} {w : World} {cs : List Value} {n : Et} (h : IsE B w cs n) : ∃ ka kc va vc, cs = [.int .i64 n.id, .int .i64 n.src, .int .i64 n.dst, .string n.ty, .slice ka n.keys.length kc, .slice va n.vals.length vc] := by
  obtain ⟨ka, kc, va, vc, h, _⟩ := h
  exact ⟨ka, kc, va, vc, h⟩

set_option maxHeartbeats 8000000 in
theorem copyG_own (g : Gt) (cs : List Value) (B : Nat) (w : World) (h : IsG B w cs g) (hB : B ≤ w.heap.size) (hs : SmG g) :
    Calls Try.prog 30 #[.agg cs.toArray] w (FreshG g w) := by
  obtain ⟨na, nc, ea, ec, rfl, hn, he, hN, hE⟩ := h
  show Calls Try.prog 30 #[.agg #[.slice na g.nodes.length nc, .slice ea g.edges.length ec]] w _
  have hnl : g.nodes.length ≤ 1048576 := hs.1.1
  have hel : g.edges.length ≤ 1048576 := hs.1.2
  have HSM := Lib.hid hs
  obtain ⟨iN, siN, szN, s1N, s2N⟩ := info_parts Try.infoNode
  obtain ⟨iE, siE, szE, s1E, s2E⟩ := info_parts Try.infoEdge
  obtain ⟨W0, hW0⟩ : ∃ W0, ((w.alloc (.cells #[.slice na g.nodes.length nc, .slice ea g.edges.length ec] 25)).alloc (.cells #[.slice none 0 0, .slice none 0 0] 25)).alloc (.cells #[.slice none 0 0, .slice none 0 0] 25) = W0 := ⟨_, rfl⟩
  have hBW : Below w.heap.size w W0 := by rw [← hW0]; exact (((Below.refl _ _).alloc (Nat.le_refl _) _).alloc (by simp) _).alloc (by simp; omega) _
  have hX0 : Block W0 w.heap.size [.slice na g.nodes.length nc, .slice ea g.edges.length ec] 25 := by rw [← hW0]; exact ((Block.new w _ _).alloc _).alloc _
  have hX1 : Block W0 (w.heap.size + 1) [.slice none 0 0, .slice none 0 0] 25 := by
    rw [← hW0]
    have := (Block.new (w.alloc (.cells #[.slice na g.nodes.length nc, .slice ea g.edges.length ec] 25)) [.slice none 0 0, .slice none 0 0] 25).alloc (.cells #[.slice none 0 0, .slice none 0 0] 25)
    simpa using this
  obtain ⟨bO, hbO⟩ : ∃ bO, w.heap.size + 2 = bO := ⟨_, rfl⟩
  have hX2 : Block W0 bO [.slice none 0 0, .slice none 0 0] 25 := by
    rw [← hW0, ← hbO]
    have := Block.new ((w.alloc (.cells #[.slice na g.nodes.length nc, .slice ea g.edges.length ec] 25)).alloc (.cells #[.slice none 0 0, .slice none 0 0] 25)) [.slice none 0 0, .slice none 0 0] 25
    simpa using this
  have hz0 : bO + 1 = W0.heap.size := by rw [← hW0, ← hbO]; simp
  have HWW : Hid (w.heap.size + 2 < W0.heap.size) := Lib.hid (by omega)
  have HBO := Lib.hid hbO
  have HX0 := Lib.hid hX0
  have HX1 := Lib.hid hX1
  have HBW := Lib.hid hBW
  have HZ0 := Lib.hid hz0
  have HW0 := Lib.hid hW0
  have HNS := Lib.hid hN
  have HES := Lib.hid hE
  have HO0 : Hid (OutS IsNO 38 4 W0 bO 0 25 (fun v => [v, .slice none 0 0]) W0 (.slice none 0 0) (.slice none 0 0) 0 [] (g.nodes.take 0) []) := Lib.hid ⟨hX2, RowG.nil _ _ _, Kept.refl _ _, hX2.lt⟩
  have i0 := hX0.cell (i := 0) rfl
  rw [← hW0] at i0
  clear hX0 hX1 hX2 hBW hz0 hW0 hN hE hn he hs
  go_enter Try.func30, Try.ntmps30
  go_wp2_with fail
  (try rw [show w.heap.size + 1 + 1 = bO from hbO])
  (try rw [hbO])
  rw [HW0.out]
  clear hbO i0
  go_loopw [11] (fun iv wr => ∃ (j : Nat) (a : Option Addr) (c : Nat) (cl : List Value) (bs : List Nat), iv = .int .i64 j ∧ j ≤ g.nodes.length ∧ Hid (OutS IsNO 38 4 W0 bO 0 25 (fun v => [v, .slice none 0 0]) wr (.slice a j c) (.slice a j c) j cl (g.nodes.take j) bs)) (fun iv _ => g.nodes.length - (intOf iv).toNat)
  case atStart => exact ⟨0, _, _, _, _, rfl, Nat.zero_le _, HO0⟩
  case round =>
    obtain ⟨j, a, c, cl, bs, rfl, hj, HO⟩ := hrel
    have hgb := HX0.out.of_heap (HO.out.kept.block w.heap.size HX0.out.lt (by have := HBO.out; simp; omega))
    have gc0 := hgb.cell (i := 0) rfl
    have gc1 := hgb.cell (i := 1) rfl
    clear hgb
    by_cases hlt : j < g.nodes.length
    · clear gc1
      have hlt' : (j : Int) < g.nodes.length := by omega
      have hj0 : (0 : Int) ≤ (j : Int) := by omega
      have hbr : Below w.heap.size w wr := HBW.out.trans (HO.out.kept.below (fun q hq => by have := HBO.out; simp at hq; omega) HBW.out.size)
      obtain ⟨x, hx⟩ := get_some hlt
      obtain ⟨b, off, cs, e1, hbB, _, hc, hcell⟩ := (HNS.out.below (R' := IsN B wr) hbr hB (fun _ _ h => h.below hbr hB)).at hx
      obtain ⟨la, lc, ka, kc, va, vc, rfl⟩ := node_cells hc
      have hsx := HSM.out.2.1 j x hx
      subst e1
      have k0 : wr.cell? ⟨b, off + j * 4, none⟩ = some (.int .i64 x.id) := hcell 0 _ rfl
      have k1 := hcell 1 _ rfl
      have k2 := hcell 2 _ rfl
      have k3 := hcell 3 _ rfl
      have hzr := HO.out.kept.size
      obtain ⟨W1, hW1⟩ : ∃ W1, wr.alloc (.cells #[.int .i64 x.id, .slice la x.labels.length lc, .slice ka x.keys.length kc, .slice va x.vals.length vc] 38) = W1 := ⟨_, rfl⟩
      have hb1 : Below wr.heap.size wr W1 := by rw [← hW1]; exact (Below.refl _ _).alloc (Nat.le_refl _) _
      have hblk : Block W1 wr.heap.size [.int .i64 x.id, .slice la x.labels.length lc, .slice ka x.keys.length kc, .slice va x.vals.length vc] 38 := by rw [← hW1]; exact Block.new _ _ _
      have hbw : Below w.heap.size w W1 := hbr.trans (hb1.mono hbr.size)
      have HCN := Lib.hid (fun (u' : World) (hb : Below W1.heap.size W1 u') => copyNode_any x _ B u' (hc.below (B' := w.heap.size) ((hb1.trans (hb.mono hb1.size)).mono hbr.size) hB) (Nat.le_trans hB (hbw.trans (hb.mono hbw.size)).size) hsx)
      have HOW := HO
      replace HO := Lib.hid (HO.out.below ownIsNO hb1)
      have hne : (Value.slice a j c).ownBlock ≠ some wr.heap.size := fun e => by have := (HOW.out.row.own.lt _ e).2; omega
      have HSW : Hid (∀ u : World, (∀ q, q < W1.heap.size → (Value.slice a j c).ownBlock ≠ some q → u.heap[q]? = W1.heap[q]?) → (fun u : World => u.cell? ⟨bO, 0, none⟩ = some (.slice a j c) ∧ u.cell? ⟨wr.heap.size, 0, none⟩ = some (.int .i64 x.id) ∧ u.cell? ⟨wr.heap.size, 1, none⟩ = some (.slice la x.labels.length lc) ∧ u.cell? ⟨wr.heap.size, 2, none⟩ = some (.slice ka x.keys.length kc) ∧ u.cell? ⟨wr.heap.size, 3, none⟩ = some (.slice va x.vals.length vc)) u) := Lib.hid (fun u h => ⟨(cell_heap (h bO HO.out.blk.lt (fun e => by have := (HO.out.row.own.lt bO e).1; have := HO.out.lt; omega))).trans (HO.out.blk.cell rfl), (cell_heap (h wr.heap.size hblk.lt hne)).trans (hblk.cell rfl), (cell_heap (h wr.heap.size hblk.lt hne)).trans (hblk.cell rfl), (cell_heap (h wr.heap.size hblk.lt hne)).trans (hblk.cell rfl), (cell_heap (h wr.heap.size hblk.lt hne)).trans (hblk.cell rfl)⟩)
      have HXJ := Lib.hid hx
      clear hx hc hcell hsx hbB
      clear hblk hbw
      have HW1 := Lib.hid hW1
      have HB1 := Lib.hid hb1
      clear hW1 hb1
      go_wp2_with fail
      rw [HW1.out]
      refine wp_region_noPanic ?_
      refine wp_region_J (S := fun u : World => u.cell? ⟨bO, 0, none⟩ = some (.slice a j c) ∧ u.cell? ⟨wr.heap.size, 0, none⟩ = some (.int .i64 x.id) ∧ u.cell? ⟨wr.heap.size, 1, none⟩ = some (.slice la x.labels.length lc) ∧ u.cell? ⟨wr.heap.size, 2, none⟩ = some (.slice ka x.keys.length kc) ∧ u.cell? ⟨wr.heap.size, 3, none⟩ = some (.slice va x.vals.length vc)) (fun j => j == 7) (by kernel_rfl) ?_
      obtain ⟨u0, hu0⟩ : ∃ u, W1.drew = u := ⟨_, rfl⟩
      have HO0 := Lib.hid (HO.out.drew ownIsNO)
      have HSS := Lib.hid (fun u' h => HSW.out u' (fun q hq hn => (h q hq hn).trans rfl) : ∀ u' : World, (∀ q, q < W1.drew.heap.size → (Value.slice a j c).ownBlock ≠ some q → u'.heap[q]? = W1.drew.heap[q]?) → (fun u : World => u.cell? ⟨bO, 0, none⟩ = some (.slice a j c) ∧ u.cell? ⟨wr.heap.size, 0, none⟩ = some (.int .i64 x.id) ∧ u.cell? ⟨wr.heap.size, 1, none⟩ = some (.slice la x.labels.length lc) ∧ u.cell? ⟨wr.heap.size, 2, none⟩ = some (.slice ka x.keys.length kc) ∧ u.cell? ⟨wr.heap.size, 3, none⟩ = some (.slice va x.vals.length vc)) u')
      rw [hu0] at HO0 HSS ⊢
      have hHeld : (fun u : World => u.cell? ⟨bO, 0, none⟩ = some (.slice a j c) ∧ u.cell? ⟨wr.heap.size, 0, none⟩ = some (.int .i64 x.id) ∧ u.cell? ⟨wr.heap.size, 1, none⟩ = some (.slice la x.labels.length lc) ∧ u.cell? ⟨wr.heap.size, 2, none⟩ = some (.slice ka x.keys.length kc) ∧ u.cell? ⟨wr.heap.size, 3, none⟩ = some (.slice va x.vals.length vc)) u0 := HSS.out u0 (fun _ _ _ => rfl)
      have HU0 := Lib.hid hu0
      clear hu0
      refine wpAnyJ_take0 (i := 0) (v := ?_) rfl (by kernel_rfl) (by kernel_rfl) (by kernel_rfl) (fun _ _ _ h => h) (Or.inl ⟨by rfl, ?_⟩) ?_
      rotate_left
      focus ((intro w hSw; clear hSw; go_simp); try with_reducible rfl)
      (try simp only [Act.put, List.getElem_toArray, List.getElem_cons_zero, List.getElem_cons_succ, List.setIfInBounds_toArray, List.set_cons_zero, List.set_cons_succ])
      refine wpAnyJ_take (i := 1) (v := ?_) rfl (by kernel_rfl) (by kernel_rfl) (by kernel_rfl) (by kernel_rfl) (fun _ _ _ h => h) (Or.inl ⟨by rfl, ?_⟩) (by assumption) ?_
      rotate_left
      focus ((intro w hSw; (try dsimp only at hSw); go_simp); try with_reducible rfl)
      (try simp only [Act.put, List.getElem_toArray, List.getElem_cons_zero, List.getElem_cons_succ, List.setIfInBounds_toArray, List.set_cons_zero, List.set_cons_succ])
      refine wpAnyJ_take (i := 2) (v := ?_) rfl (by kernel_rfl) (by kernel_rfl) (by kernel_rfl) (by kernel_rfl) (fun _ _ _ h => h) (Or.inl ⟨by rfl, ?_⟩) (by assumption) ?_
      rotate_left
      focus ((intro w hSw; (try dsimp only at hSw); go_simp); try with_reducible rfl)
      (try simp only [Act.put, List.getElem_toArray, List.getElem_cons_zero, List.getElem_cons_succ, List.setIfInBounds_toArray, List.set_cons_zero, List.set_cons_succ])
      refine wpAnyJ_ready (rs := [3]) (by kernel_rfl) (by simp) ?_
      refine AllReadyJ.cons rfl (fun KK hKK => ?_) AllReadyJ.nil
      go_simp
      go_at_call 58
      refine (HCN.out u0 (by rw [← HU0.out]; exact (Below.refl _ _).drew)).mono ?_
      rintro e u1 ⟨cs', bs', rfl, hb1, ho1, hn1, hr1⟩
      have ho2 := ho1
      obtain ⟨la', lc', ka', kc', va', vc', x1, x2, x3, hcs, -⟩ := ho2
      subst hcs
      have hH2 : (fun u : World => u.cell? ⟨bO, 0, none⟩ = some (.slice a j c) ∧ u.cell? ⟨wr.heap.size, 0, none⟩ = some (.int .i64 x.id) ∧ u.cell? ⟨wr.heap.size, 1, none⟩ = some (.slice la x.labels.length lc) ∧ u.cell? ⟨wr.heap.size, 2, none⟩ = some (.slice ka x.keys.length kc) ∧ u.cell? ⟨wr.heap.size, 3, none⟩ = some (.slice va x.vals.length vc)) u1 := HSS.out u1 (fun q hq _ => hb1.block q hq)
      refine hKK.out _ _ (fun _ _ => hH2) ?_
      clear hKK KK hHeld
      have hHeld := hH2
      clear hH2
      have HC1 := Lib.hid (show _ ∧ _ ∧ _ ∧ _ from ⟨hb1, ho1, hn1, hr1⟩)
      have hz1 := hb1.size
      clear hb1 ho1 hn1 hr1
      (try simp only [Act.put, List.getElem_toArray, List.getElem_cons_zero, List.getElem_cons_succ, List.setIfInBounds_toArray, List.set_cons_zero, List.set_cons_succ])
      refine wpAnyJ_ready (rs := [4]) (by kernel_rfl) (by simp) ?_
      refine AllReadyJ.cons rfl (fun KK hKK => ?_) AllReadyJ.nil
      go_simp
      have hH2 : (fun u : World => u.cell? ⟨bO, 0, none⟩ = some (.slice a j c) ∧ u.cell? ⟨wr.heap.size, 0, none⟩ = some (.int .i64 x.id) ∧ u.cell? ⟨wr.heap.size, 1, none⟩ = some (.slice la x.labels.length lc) ∧ u.cell? ⟨wr.heap.size, 2, none⟩ = some (.slice ka x.keys.length kc) ∧ u.cell? ⟨wr.heap.size, 3, none⟩ = some (.slice va x.vals.length vc)) (u1.alloc (.cells #[.int .i64 x.id, .slice la' x.labels.length lc', .slice ka' x.keys.length kc', .slice va' x.vals.length vc'] 38)) := HSS.out _ (fun q hq _ => by rw [Below.heap_alloc _ _ _ (Nat.lt_of_lt_of_le hq hz1)]; exact HC1.out.1.block q hq)
      refine hKK.out _ _ (fun _ _ => hH2) ?_
      clear hKK KK hHeld
      have hHeld := hH2
      clear hH2
      (try simp only [Act.put, List.getElem_toArray, List.getElem_cons_zero, List.getElem_cons_succ, List.setIfInBounds_toArray, List.set_cons_zero, List.set_cons_succ])
      refine wpAnyJ_ready (rs := [5]) (by kernel_rfl) (by simp) ?_
      refine AllReadyJ.cons rfl (fun KK hKK => ?_) AllReadyJ.nil
      refine step_append_lies _ (by rfl) _ _ 22 (by rfl) W0.heap.size 38 iN _ 4 80 Try.underlying22 siN szN s1N s2N rfl (by decide) (.slice a j c) j cl (by rfl) ((HO0.out.row.same ownIsNO HC1.out.1).own.alloc _) ⟨u1.heap.size, 0, none⟩ 1 1 [.int .i64 x.id, .slice la' x.labels.length lc', .slice ka' x.keys.length kc', .slice va' x.vals.length vc'] (by rfl) rfl (World.news_of_block (cs := #[.int .i64 x.id, .slice la' x.labels.length lc', .slice ka' x.keys.length kc', .slice va' x.vals.length vc']) (t := 38) (fr := (0, 0)) (Block.new u1 [.int .i64 x.id, .slice la' x.labels.length lc', .slice ka' x.keys.length kc', .slice va' x.vals.length vc'] 38)) (by simp [Value.oneCell']) (by decide) (by unfold maxLen; omega) (by omega) (by have := HO0.out.kept.size; simp; omega) (u1.heap.size + 1) (by simp) ?_
      intro gg cap u3 hown hgrow hat hlt3
      have HO3 := Lib.hid (OutS.app ownIsNO HO0.out HC1.out.1 HC1.out.2.1 HC1.out.2.2.1 HC1.out.2.2.2 hown hgrow rfl hat)
      have hH2 : (fun u : World => u.cell? ⟨bO, 0, none⟩ = some (.slice a j c) ∧ u.cell? ⟨wr.heap.size, 0, none⟩ = some (.int .i64 x.id) ∧ u.cell? ⟨wr.heap.size, 1, none⟩ = some (.slice la x.labels.length lc) ∧ u.cell? ⟨wr.heap.size, 2, none⟩ = some (.slice ka x.keys.length kc) ∧ u.cell? ⟨wr.heap.size, 3, none⟩ = some (.slice va x.vals.length vc)) u3 := HSS.out u3 (fun q hq hn => by rw [hgrow.block q (by simp; omega) (fun e => hn e.symm), Below.heap_alloc _ _ _ (Nat.lt_of_lt_of_le hq hz1)]; exact HC1.out.1.block q hq)
      refine hKK.out _ _ (fun _ _ => hH2) ?_
      clear hKK KK hHeld
      have hHeld := hH2
      clear hH2 hown hgrow hat hlt3
      (try simp only [Act.put, List.getElem_toArray, List.getElem_cons_zero, List.getElem_cons_succ, List.setIfInBounds_toArray, List.set_cons_zero, List.set_cons_succ])
      refine wpAnyJ_take0 (i := 6) (v := ?_) rfl (by kernel_rfl) (by kernel_rfl) (by kernel_rfl) (fun _ _ _ h => h) (Or.inl ⟨by rfl, ?_⟩) ?_
      rotate_left
      focus ((intro w hSw; clear hSw; go_simp); try with_reducible rfl)
      (try simp only [Act.put, List.getElem_toArray, List.getElem_cons_zero, List.getElem_cons_succ, List.setIfInBounds_toArray, List.set_cons_zero, List.set_cons_succ])
      refine wpAnyJ_ready (rs := [7]) (by kernel_rfl) (by simp) ?_
      refine AllReadyJ.cons rfl (fun KK hKK => ?_) AllReadyJ.nil
      have y0 := HO3.out.blk.cell (i := 0) rfl
      have y1 := HO3.out.blk.free 0
      go_simp
      clear y0 y1
      have HO4 := Lib.hid (HO3.out.put ownIsNO rfl)
      refine hKK.out _ _ (fun h => absurd h (by decide)) ?_
      clear hKK KK hHeld HO3 HO0 HC1 HSS
      (try simp only [Act.put, List.getElem_toArray, List.getElem_cons_zero, List.getElem_cons_succ, List.setIfInBounds_toArray, List.set_cons_zero, List.set_cons_succ])
      refine wpAnyJ_done (by kernel_rfl) ?_ _
      refine NoPanic.normal ?_
      go_wp2_with fail
      go_roundw
      case rel => exact ⟨j + 1, _, _, _, _, by go_num, by omega, Lib.hid (by rw [take_succ_some HXJ.out]; exact HO4.out)⟩
      case measure => simp [intOf]; omega
    · have hlt' : ¬ (j : Int) < g.nodes.length := by omega
      have hjl : j = g.nodes.length := by omega
      have HO2 : Hid (OutS IsNO 38 4 W0 bO 0 25 (fun v => [v, .slice none 0 0]) wr (.slice a j c) (.slice a j c) j cl g.nodes bs) := Lib.hid (by have := HO.out; rwa [List.take_of_length_le (by omega)] at this)
      obtain ⟨na2, nc2, bn2, hv9, hc9, hp9, hn9, hr9⟩ := HO2.out.row.part ownIsNO
      injection hv9 with e1 e2 e3
      subst e1 e3
      have HJL := Lib.hid hjl
      have HRN : Hid (RowG IsNO 38 4 W0.heap.size wr (.slice a g.nodes.length c) g.nodes.length cl g.nodes bs) := Lib.hid (by have := HO2.out.row; rwa [hjl] at this)
      have hbr : Below w.heap.size w wr := HBW.out.trans (HO.out.kept.below (fun q hq => by have := HBO.out; simp at hq; omega) HBW.out.size)
      have HBR2 := Lib.hid hbr
      have HX12 : Hid (Block wr (w.heap.size + 1) [.slice none 0 0, .slice none 0 0] 25) := Lib.hid (HX1.out.of_heap (HO.out.kept.block _ HX1.out.lt (by have := HBO.out; simp; omega)))
      have HX02 := Lib.hid (HX0.out.of_heap (HO.out.kept.block w.heap.size HX0.out.lt (by have := HBO.out; simp; omega)))
      have HOE : Hid (OutS IsEO 40 6 wr bO 1 25 (fun v => [.slice a g.nodes.length c, v]) wr (.slice none 0 0) (.slice none 0 0) 0 [] (g.edges.take 0) []) := Lib.hid ⟨by have := HO2.out.blk; rwa [hjl] at this, RowG.nil _ _ _, Kept.refl _ _, HO2.out.blk.lt⟩
      have HWZ := Lib.hid (show w.heap.size + 2 < wr.heap.size from by have := HO.out.kept.size; have := HWW.out; omega)
      clear hc9 hp9 hn9 hr9 hbr hjl HO HO2 HWW
      have HWW := HWZ
      clear HWZ
      go_wp2_with fail
      rename World => wz
      go_loopw [26] (fun iv wr => ∃ (j : Nat) (ax : Option Addr) (cx : Nat) (cl : List Value) (bs : List Nat), iv = .int .i64 j ∧ j ≤ g.edges.length ∧ Hid (OutS IsEO 40 6 wz bO 1 25 (fun v => [.slice a g.nodes.length c, v]) wr (.slice ax j cx) (.slice ax j cx) j cl (g.edges.take j) bs)) (fun iv _ => g.edges.length - (intOf iv).toNat)
      case atStart => exact ⟨0, _, _, _, _, rfl, Nat.zero_le _, HOE⟩
      case round =>
        clear HOE hlt hlt' gc0 gc1
        obtain ⟨j, ax, cx, cl, bs, rfl, hj, HO⟩ := hrel
        have hgb := HX02.out.of_heap (HO.out.kept.block w.heap.size HX02.out.lt (by have := HBO.out; simp; omega))
        have gc0 := hgb.cell (i := 0) rfl
        have gc1 := hgb.cell (i := 1) rfl
        clear hgb
        by_cases hlt : j < g.edges.length
        · clear gc0
          have hlt' : (j : Int) < g.edges.length := by omega
          have hj0 : (0 : Int) ≤ (j : Int) := by omega
          have hbr : Below w.heap.size w wr := HBR2.out.trans (HO.out.kept.below (fun q hq => by have := HBO.out; simp at hq; omega) HBR2.out.size)
          obtain ⟨x, hx⟩ := get_some hlt
          obtain ⟨b, off, cs, e1, hbB, _, hc, hcell⟩ := (HES.out.below (R' := IsE B wr) hbr hB (fun _ _ h => h.below hbr hB)).at hx
          obtain ⟨ka, kc, va, vc, rfl⟩ := edge_cells hc
          have hsx := HSM.out.2.2 j x hx
          subst e1
          have k0 : wr.cell? ⟨b, off + j * 6, none⟩ = some (.int .i64 x.id) := hcell 0 _ rfl
          have k1 := hcell 1 _ rfl
          have k2 := hcell 2 _ rfl
          have k3 := hcell 3 _ rfl
          have k4 := hcell 4 _ rfl
          have k5 := hcell 5 _ rfl
          have hzr := HO.out.kept.size
          obtain ⟨W1, hW1⟩ : ∃ W1, wr.alloc (.cells #[.int .i64 x.id, .int .i64 x.src, .int .i64 x.dst, .string x.ty, .slice ka x.keys.length kc, .slice va x.vals.length vc] 40) = W1 := ⟨_, rfl⟩
          have hb1 : Below wr.heap.size wr W1 := by rw [← hW1]; exact (Below.refl _ _).alloc (Nat.le_refl _) _
          have hblk : Block W1 wr.heap.size [.int .i64 x.id, .int .i64 x.src, .int .i64 x.dst, .string x.ty, .slice ka x.keys.length kc, .slice va x.vals.length vc] 40 := by rw [← hW1]; exact Block.new _ _ _
          have hbw : Below w.heap.size w W1 := hbr.trans (hb1.mono hbr.size)
          have HCN := Lib.hid (fun (u' : World) (hb : Below W1.heap.size W1 u') => copyEdge_any x _ B u' (hc.below (B' := w.heap.size) ((hb1.trans (hb.mono hb1.size)).mono hbr.size) hB) (Nat.le_trans hB (hbw.trans (hb.mono hbw.size)).size) hsx)
          have HOW := HO
          replace HO := Lib.hid (HO.out.below ownIsEO hb1)
          have hne : (Value.slice ax j cx).ownBlock ≠ some wr.heap.size := fun e => by have := (HOW.out.row.own.lt _ e).2; omega
          have HSW : Hid (∀ u : World, (∀ q, q < W1.heap.size → (Value.slice ax j cx).ownBlock ≠ some q → u.heap[q]? = W1.heap[q]?) → (fun u : World => u.cell? ⟨bO, 1, none⟩ = some (.slice ax j cx) ∧ u.cell? ⟨wr.heap.size, 0, none⟩ = some (.int .i64 x.id) ∧ u.cell? ⟨wr.heap.size, 1, none⟩ = some (.int .i64 x.src) ∧ u.cell? ⟨wr.heap.size, 2, none⟩ = some (.int .i64 x.dst) ∧ u.cell? ⟨wr.heap.size, 3, none⟩ = some (.string x.ty) ∧ u.cell? ⟨wr.heap.size, 4, none⟩ = some (.slice ka x.keys.length kc) ∧ u.cell? ⟨wr.heap.size, 5, none⟩ = some (.slice va x.vals.length vc)) u) := Lib.hid (fun u h => ⟨(cell_heap (h bO HO.out.blk.lt (fun e => by have := (HO.out.row.own.lt bO e).1; have := HO.out.lt; omega))).trans (HO.out.blk.cell rfl), (cell_heap (h wr.heap.size hblk.lt hne)).trans (hblk.cell rfl), (cell_heap (h wr.heap.size hblk.lt hne)).trans (hblk.cell rfl), (cell_heap (h wr.heap.size hblk.lt hne)).trans (hblk.cell rfl), (cell_heap (h wr.heap.size hblk.lt hne)).trans (hblk.cell rfl), (cell_heap (h wr.heap.size hblk.lt hne)).trans (hblk.cell rfl), (cell_heap (h wr.heap.size hblk.lt hne)).trans (hblk.cell rfl)⟩)
          have HXJ := Lib.hid hx
          clear hx hc hcell hsx hbB
          clear hblk hbw
          have HW1 := Lib.hid hW1
          have HB1 := Lib.hid hb1
          clear hW1 hb1
          go_wp2_with fail
          rw [HW1.out]
          refine wp_region_noPanic ?_
          refine wp_region_J (S := fun u : World => u.cell? ⟨bO, 1, none⟩ = some (.slice ax j cx) ∧ u.cell? ⟨wr.heap.size, 0, none⟩ = some (.int .i64 x.id) ∧ u.cell? ⟨wr.heap.size, 1, none⟩ = some (.int .i64 x.src) ∧ u.cell? ⟨wr.heap.size, 2, none⟩ = some (.int .i64 x.dst) ∧ u.cell? ⟨wr.heap.size, 3, none⟩ = some (.string x.ty) ∧ u.cell? ⟨wr.heap.size, 4, none⟩ = some (.slice ka x.keys.length kc) ∧ u.cell? ⟨wr.heap.size, 5, none⟩ = some (.slice va x.vals.length vc)) (fun j => j == 7) (by kernel_rfl) ?_
          obtain ⟨u0, hu0⟩ : ∃ u, W1.drew = u := ⟨_, rfl⟩
          have HO0 := Lib.hid (HO.out.drew ownIsEO)
          have HSS := Lib.hid (fun u' h => HSW.out u' (fun q hq hn => (h q hq hn).trans rfl) : ∀ u' : World, (∀ q, q < W1.drew.heap.size → (Value.slice ax j cx).ownBlock ≠ some q → u'.heap[q]? = W1.drew.heap[q]?) → (fun u : World => u.cell? ⟨bO, 1, none⟩ = some (.slice ax j cx) ∧ u.cell? ⟨wr.heap.size, 0, none⟩ = some (.int .i64 x.id) ∧ u.cell? ⟨wr.heap.size, 1, none⟩ = some (.int .i64 x.src) ∧ u.cell? ⟨wr.heap.size, 2, none⟩ = some (.int .i64 x.dst) ∧ u.cell? ⟨wr.heap.size, 3, none⟩ = some (.string x.ty) ∧ u.cell? ⟨wr.heap.size, 4, none⟩ = some (.slice ka x.keys.length kc) ∧ u.cell? ⟨wr.heap.size, 5, none⟩ = some (.slice va x.vals.length vc)) u')
          rw [hu0] at HO0 HSS ⊢
          have hHeld : (fun u : World => u.cell? ⟨bO, 1, none⟩ = some (.slice ax j cx) ∧ u.cell? ⟨wr.heap.size, 0, none⟩ = some (.int .i64 x.id) ∧ u.cell? ⟨wr.heap.size, 1, none⟩ = some (.int .i64 x.src) ∧ u.cell? ⟨wr.heap.size, 2, none⟩ = some (.int .i64 x.dst) ∧ u.cell? ⟨wr.heap.size, 3, none⟩ = some (.string x.ty) ∧ u.cell? ⟨wr.heap.size, 4, none⟩ = some (.slice ka x.keys.length kc) ∧ u.cell? ⟨wr.heap.size, 5, none⟩ = some (.slice va x.vals.length vc)) u0 := HSS.out u0 (fun _ _ _ => rfl)
          have HU0 := Lib.hid hu0
          clear hu0
          refine wpAnyJ_take0 (i := 0) (v := ?_) rfl (by kernel_rfl) (by kernel_rfl) (by kernel_rfl) (fun _ _ _ h => h) (Or.inl ⟨by rfl, ?_⟩) ?_
          rotate_left
          focus ((intro w hSw; clear hSw; go_simp); try with_reducible rfl)
          (try simp only [Act.put, List.getElem_toArray, List.getElem_cons_zero, List.getElem_cons_succ, List.setIfInBounds_toArray, List.set_cons_zero, List.set_cons_succ])
          refine wpAnyJ_take (i := 1) (v := ?_) rfl (by kernel_rfl) (by kernel_rfl) (by kernel_rfl) (by kernel_rfl) (fun _ _ _ h => h) (Or.inl ⟨by rfl, ?_⟩) (by assumption) ?_
          rotate_left
          focus ((intro w hSw; (try dsimp only at hSw); go_simp); try with_reducible rfl)
          (try simp only [Act.put, List.getElem_toArray, List.getElem_cons_zero, List.getElem_cons_succ, List.setIfInBounds_toArray, List.set_cons_zero, List.set_cons_succ])
          refine wpAnyJ_take (i := 2) (v := ?_) rfl (by kernel_rfl) (by kernel_rfl) (by kernel_rfl) (by kernel_rfl) (fun _ _ _ h => h) (Or.inl ⟨by rfl, ?_⟩) (by assumption) ?_
          rotate_left
          focus ((intro w hSw; (try dsimp only at hSw); go_simp); try with_reducible rfl)
          (try simp only [Act.put, List.getElem_toArray, List.getElem_cons_zero, List.getElem_cons_succ, List.setIfInBounds_toArray, List.set_cons_zero, List.set_cons_succ])
          refine wpAnyJ_ready (rs := [3]) (by kernel_rfl) (by simp) ?_
          refine AllReadyJ.cons rfl (fun KK hKK => ?_) AllReadyJ.nil
          go_simp
          go_at_call 59
          refine (HCN.out u0 (by rw [← HU0.out]; exact (Below.refl _ _).drew)).mono ?_
          rintro e u1 ⟨cs', bs', rfl, hb1, ho1, hn1, hr1⟩
          have ho2 := ho1
          obtain ⟨ka', kc', va', vc', x1, x2, hcs, -⟩ := ho2
          subst hcs
          have hH2 : (fun u : World => u.cell? ⟨bO, 1, none⟩ = some (.slice ax j cx) ∧ u.cell? ⟨wr.heap.size, 0, none⟩ = some (.int .i64 x.id) ∧ u.cell? ⟨wr.heap.size, 1, none⟩ = some (.int .i64 x.src) ∧ u.cell? ⟨wr.heap.size, 2, none⟩ = some (.int .i64 x.dst) ∧ u.cell? ⟨wr.heap.size, 3, none⟩ = some (.string x.ty) ∧ u.cell? ⟨wr.heap.size, 4, none⟩ = some (.slice ka x.keys.length kc) ∧ u.cell? ⟨wr.heap.size, 5, none⟩ = some (.slice va x.vals.length vc)) u1 := HSS.out u1 (fun q hq _ => hb1.block q hq)
          refine hKK.out _ _ (fun _ _ => hH2) ?_
          clear hKK KK hHeld
          have hHeld := hH2
          clear hH2
          have HC1 := Lib.hid (show _ ∧ _ ∧ _ ∧ _ from ⟨hb1, ho1, hn1, hr1⟩)
          have hz1 := hb1.size
          clear hb1 ho1 hn1 hr1
          (try simp only [Act.put, List.getElem_toArray, List.getElem_cons_zero, List.getElem_cons_succ, List.setIfInBounds_toArray, List.set_cons_zero, List.set_cons_succ])
          refine wpAnyJ_ready (rs := [4]) (by kernel_rfl) (by simp) ?_
          refine AllReadyJ.cons rfl (fun KK hKK => ?_) AllReadyJ.nil
          go_simp
          have hH2 : (fun u : World => u.cell? ⟨bO, 1, none⟩ = some (.slice ax j cx) ∧ u.cell? ⟨wr.heap.size, 0, none⟩ = some (.int .i64 x.id) ∧ u.cell? ⟨wr.heap.size, 1, none⟩ = some (.int .i64 x.src) ∧ u.cell? ⟨wr.heap.size, 2, none⟩ = some (.int .i64 x.dst) ∧ u.cell? ⟨wr.heap.size, 3, none⟩ = some (.string x.ty) ∧ u.cell? ⟨wr.heap.size, 4, none⟩ = some (.slice ka x.keys.length kc) ∧ u.cell? ⟨wr.heap.size, 5, none⟩ = some (.slice va x.vals.length vc)) (u1.alloc (.cells #[.int .i64 x.id, .int .i64 x.src, .int .i64 x.dst, .string x.ty, .slice ka' x.keys.length kc', .slice va' x.vals.length vc'] 40)) := HSS.out _ (fun q hq _ => by rw [Below.heap_alloc _ _ _ (Nat.lt_of_lt_of_le hq hz1)]; exact HC1.out.1.block q hq)
          refine hKK.out _ _ (fun _ _ => hH2) ?_
          clear hKK KK hHeld
          have hHeld := hH2
          clear hH2
          (try simp only [Act.put, List.getElem_toArray, List.getElem_cons_zero, List.getElem_cons_succ, List.setIfInBounds_toArray, List.set_cons_zero, List.set_cons_succ])
          refine wpAnyJ_ready (rs := [5]) (by kernel_rfl) (by simp) ?_
          refine AllReadyJ.cons rfl (fun KK hKK => ?_) AllReadyJ.nil
          refine step_append_lies _ (by rfl) _ _ 23 (by rfl) wz.heap.size 40 iE _ 6 88 Try.underlying23 siE szE s1E s2E rfl (by decide) (.slice ax j cx) j cl (by rfl) ((HO0.out.row.same ownIsEO HC1.out.1).own.alloc _) ⟨u1.heap.size, 0, none⟩ 1 1 [.int .i64 x.id, .int .i64 x.src, .int .i64 x.dst, .string x.ty, .slice ka' x.keys.length kc', .slice va' x.vals.length vc'] (by rfl) rfl (World.news_of_block (cs := #[.int .i64 x.id, .int .i64 x.src, .int .i64 x.dst, .string x.ty, .slice ka' x.keys.length kc', .slice va' x.vals.length vc']) (t := 40) (fr := (0, 0)) (Block.new u1 [.int .i64 x.id, .int .i64 x.src, .int .i64 x.dst, .string x.ty, .slice ka' x.keys.length kc', .slice va' x.vals.length vc'] 40)) (by simp [Value.oneCell']) (by decide) (by unfold maxLen; omega) (by omega) (by have := HO0.out.kept.size; simp; omega) (u1.heap.size + 1) (by simp) ?_
          intro gg cap u3 hown hgrow hat hlt3
          have HO3 := Lib.hid (OutS.app ownIsEO HO0.out HC1.out.1 HC1.out.2.1 HC1.out.2.2.1 HC1.out.2.2.2 hown hgrow rfl hat)
          have hH2 : (fun u : World => u.cell? ⟨bO, 1, none⟩ = some (.slice ax j cx) ∧ u.cell? ⟨wr.heap.size, 0, none⟩ = some (.int .i64 x.id) ∧ u.cell? ⟨wr.heap.size, 1, none⟩ = some (.int .i64 x.src) ∧ u.cell? ⟨wr.heap.size, 2, none⟩ = some (.int .i64 x.dst) ∧ u.cell? ⟨wr.heap.size, 3, none⟩ = some (.string x.ty) ∧ u.cell? ⟨wr.heap.size, 4, none⟩ = some (.slice ka x.keys.length kc) ∧ u.cell? ⟨wr.heap.size, 5, none⟩ = some (.slice va x.vals.length vc)) u3 := HSS.out u3 (fun q hq hn => by rw [hgrow.block q (by simp; omega) (fun e => hn e.symm), Below.heap_alloc _ _ _ (Nat.lt_of_lt_of_le hq hz1)]; exact HC1.out.1.block q hq)
          refine hKK.out _ _ (fun _ _ => hH2) ?_
          clear hKK KK hHeld
          have hHeld := hH2
          clear hH2 hown hgrow hat hlt3
          (try simp only [Act.put, List.getElem_toArray, List.getElem_cons_zero, List.getElem_cons_succ, List.setIfInBounds_toArray, List.set_cons_zero, List.set_cons_succ])
          refine wpAnyJ_take0 (i := 6) (v := ?_) rfl (by kernel_rfl) (by kernel_rfl) (by kernel_rfl) (fun _ _ _ h => h) (Or.inl ⟨by rfl, ?_⟩) ?_
          rotate_left
          focus ((intro w hSw; clear hSw; go_simp); try with_reducible rfl)
          (try simp only [Act.put, List.getElem_toArray, List.getElem_cons_zero, List.getElem_cons_succ, List.setIfInBounds_toArray, List.set_cons_zero, List.set_cons_succ])
          refine wpAnyJ_ready (rs := [7]) (by kernel_rfl) (by simp) ?_
          refine AllReadyJ.cons rfl (fun KK hKK => ?_) AllReadyJ.nil
          have y0 := HO3.out.blk.cell (i := 1) rfl
          have y1 := HO3.out.blk.free 1
          go_simp
          clear y0 y1
          have HO4 := Lib.hid (HO3.out.put ownIsEO rfl)
          refine hKK.out _ _ (fun h => absurd h (by decide)) ?_
          clear hKK KK hHeld HO3 HO0 HC1 HSS
          (try simp only [Act.put, List.getElem_toArray, List.getElem_cons_zero, List.getElem_cons_succ, List.setIfInBounds_toArray, List.set_cons_zero, List.set_cons_succ])
          refine wpAnyJ_done (by kernel_rfl) ?_ _
          refine NoPanic.normal ?_
          go_wp2_with fail
          go_roundw
          case rel => exact ⟨j + 1, _, _, _, _, by go_num, by omega, Lib.hid (by rw [take_succ_some HXJ.out]; exact HO4.out)⟩
          case measure => simp [intOf]; omega
        · have hlt' : ¬ (j : Int) < g.edges.length := by omega
          have hjl : j = g.edges.length := by omega
          have HO2 : Hid (OutS IsEO 40 6 wz bO 1 25 (fun v => [.slice a g.nodes.length c, v]) wr (.slice ax j cx) (.slice ax j cx) j cl g.edges bs) := Lib.hid (by have := HO.out; rwa [List.take_of_length_le (by omega)] at this)
          obtain ⟨ea2, ec2, bn2, hv9, hc9, hp9, hn9, hr9⟩ := HO2.out.row.part ownIsEO
          injection hv9 with e1 e2 e3
          subst e1 e3
          have HRE : Hid (RowG IsEO 40 6 wz.heap.size wr (.slice ax g.edges.length cx) g.edges.length cl g.edges bs) := Lib.hid (by have := HO2.out.row; rwa [hjl] at this)
          have HJE := Lib.hid hjl
          have y1 := HX12.out.of_heap (HO.out.kept.block _ HX12.out.lt (by have := HBO.out; simp; omega))
          have m0 := HO2.out.blk.cell (i := 0) rfl
          have m1 := HO2.out.blk.cell (i := 1) rfl
          have z0 := y1.cell (i := 0) rfl
          have z1 := y1.cell (i := 1) rfl
          have n0 := y1.free 0
          have n1 := y1.free 1
          obtain ⟨q0, q1⟩ := two_cells y1 (.slice a g.nodes.length c) (.slice ax j cx)
          clear hc9 hp9 hn9 hr9 hjl y1
          go_wp2_with fail
          refine bodyPost_ret (by simp [results, Try.results30, go_sem, q0, q1]; rfl) rfl ?_
          have hje := HJE.out
          subst hje
          have hzx := HO2.out.kept.size
          have hb0 := HBO.out
          have hzw := HBW.out.size
          have hww := HWW.out
          have hz0 := HZ0.out
          have hzw' : w.heap.size ≤ W0.heap.size := hzw
          have hkx : ∀ q, q ≠ w.heap.size + 1 → (((wr.setCell ⟨w.heap.size + 1, 0, none⟩ (.slice a g.nodes.length c)).setCell ⟨w.heap.size + 1, 1, none⟩ (.slice ax g.edges.length cx))).heap[q]? = wr.heap[q]? := fun q hq => by
            rw [Below.heap_setCell _ _ _ _ (by show q ≠ w.heap.size + 1; omega), Below.heap_setCell _ _ _ _ (by show q ≠ w.heap.size + 1; omega)]
          have hzs : (((wr.setCell ⟨w.heap.size + 1, 0, none⟩ (.slice a g.nodes.length c)).setCell ⟨w.heap.size + 1, 1, none⟩ (.slice ax g.edges.length cx))).heap.size = wr.heap.size := by simp [World.setCell]
          refine ⟨a, c, ax, cx, _, _, _, _, wz.heap.size, rfl, ?_, (HRN.out.frame ownIsNO (fun q h1 h2 => ?_) ?_).base hzw', fun q hq => ?_, HRE.out.frame ownIsEO (fun q h1 h2 => hkx q ?_) ?_, ?_⟩
          · exact (((HBR2.out.trans (HO2.out.kept.below (fun q hq => by simp at hq; omega) HBR2.out.size)).setCell (by show w.heap.size ≤ w.heap.size + 1; omega) _).setCell (by show w.heap.size ≤ w.heap.size + 1; omega) _)
          · rw [hkx q (by omega), HO2.out.kept.block q (by omega) (by simp; omega)]
          · rw [hzs]; omega
          · rcases hq with hq | hq
            · exact (HRN.out.lt q hq).2
            · exact (HRN.out.own.lt q hq).2
          · omega
          · rw [hzs]; exact Nat.le_refl _
          · exact Nat.le_trans hzw' (by have := HBR2.out.size; omega)
theorem copyG_any (g : Gt) (cs : List Value) (B : Nat) (w : World) (h : IsG B w cs g) (hB : B ≤ w.heap.size) (hs : SmG g) :
    Calls Try.prog 30 #[.agg cs.toArray] w (FreshP IsGO g w) := (copyG_own g cs B w h hB hs).mono fun _ _ h => h.fresh

set_option maxHeartbeats 8000000 in
theorem rCopyG_own (g : Gt) (cs : List Value) (B : Nat) (w : World) (h : IsG B w cs g) (hB : B ≤ w.heap.size) (hs : SmG g) :
    Calls Try.prog 12 #[.agg cs.toArray] w (FreshG g w) := by
  obtain ⟨na, nc, ea, ec, rfl, hn, he, hN, hE⟩ := h
  show Calls Try.prog 12 #[.agg #[.slice na g.nodes.length nc, .slice ea g.edges.length ec]] w _
  have hnl : g.nodes.length ≤ 1048576 := hs.1.1
  have hel : g.edges.length ≤ 1048576 := hs.1.2
  have HSM := Lib.hid hs
  obtain ⟨iN, siN, szN, s1N, s2N⟩ := info_parts Try.infoNode
  obtain ⟨iE, siE, szE, s1E, s2E⟩ := info_parts Try.infoEdge
  obtain ⟨W0, hW0⟩ : ∃ W0, ((w.alloc (.cells #[.slice na g.nodes.length nc, .slice ea g.edges.length ec] 25)).alloc (.cells #[.slice none 0 0, .slice none 0 0] 25)).alloc (.cells #[.slice none 0 0, .slice none 0 0] 25) = W0 := ⟨_, rfl⟩
  have hBW : Below w.heap.size w W0 := by rw [← hW0]; exact (((Below.refl _ _).alloc (Nat.le_refl _) _).alloc (by simp) _).alloc (by simp; omega) _
  have hX0 : Block W0 w.heap.size [.slice na g.nodes.length nc, .slice ea g.edges.length ec] 25 := by rw [← hW0]; exact ((Block.new w _ _).alloc _).alloc _
  have hX1 : Block W0 (w.heap.size + 1) [.slice none 0 0, .slice none 0 0] 25 := by
    rw [← hW0]
    have := (Block.new (w.alloc (.cells #[.slice na g.nodes.length nc, .slice ea g.edges.length ec] 25)) [.slice none 0 0, .slice none 0 0] 25).alloc (.cells #[.slice none 0 0, .slice none 0 0] 25)
    simpa using this
  obtain ⟨bO, hbO⟩ : ∃ bO, w.heap.size + 2 = bO := ⟨_, rfl⟩
  have hX2 : Block W0 bO [.slice none 0 0, .slice none 0 0] 25 := by
    rw [← hW0, ← hbO]
    have := Block.new ((w.alloc (.cells #[.slice na g.nodes.length nc, .slice ea g.edges.length ec] 25)).alloc (.cells #[.slice none 0 0, .slice none 0 0] 25)) [.slice none 0 0, .slice none 0 0] 25
    simpa using this
  have hz0 : bO + 1 = W0.heap.size := by rw [← hW0, ← hbO]; simp
  have HWW : Hid (w.heap.size + 2 < W0.heap.size) := Lib.hid (by omega)
  have HBO := Lib.hid hbO
  have HX0 := Lib.hid hX0
  have HX1 := Lib.hid hX1
  have HBW := Lib.hid hBW
  have HZ0 := Lib.hid hz0
  have HW0 := Lib.hid hW0
  have HNS := Lib.hid hN
  have HES := Lib.hid hE
  have HO0 : Hid (OutS IsNO 38 4 W0 bO 0 25 (fun v => [v, .slice none 0 0]) W0 (.slice none 0 0) (.slice none 0 0) 0 [] (g.nodes.take 0) []) := Lib.hid ⟨hX2, RowG.nil _ _ _, Kept.refl _ _, hX2.lt⟩
  have i0 := hX0.cell (i := 0) rfl
  rw [← hW0] at i0
  clear hX0 hX1 hX2 hBW hz0 hW0 hN hE hn he hs
  go_enter Try.func12, Try.ntmps12
  go_wp2_with fail
  (try rw [show w.heap.size + 1 + 1 = bO from hbO])
  (try rw [hbO])
  rw [HW0.out]
  clear hbO i0
  go_loopw [4] (fun iv wr => ∃ (j : Nat) (a : Option Addr) (c : Nat) (cl : List Value) (bs : List Nat), iv = .int .i64 j ∧ j ≤ g.nodes.length ∧ Hid (OutS IsNO 38 4 W0 bO 0 25 (fun v => [v, .slice none 0 0]) wr (.slice a j c) (.slice a j c) j cl (g.nodes.take j) bs)) (fun iv _ => g.nodes.length - (intOf iv).toNat)
  case atStart => exact ⟨0, _, _, _, _, rfl, Nat.zero_le _, HO0⟩
  case round =>
    obtain ⟨j, a, c, cl, bs, rfl, hj, HO⟩ := hrel
    have hgb := HX0.out.of_heap (HO.out.kept.block w.heap.size HX0.out.lt (by have := HBO.out; simp; omega))
    have gc0 := hgb.cell (i := 0) rfl
    have gc1 := hgb.cell (i := 1) rfl
    clear hgb
    by_cases hlt : j < g.nodes.length
    · clear gc1
      have hlt' : (j : Int) < g.nodes.length := by omega
      have hj0 : (0 : Int) ≤ (j : Int) := by omega
      have hbr : Below w.heap.size w wr := HBW.out.trans (HO.out.kept.below (fun q hq => by have := HBO.out; simp at hq; omega) HBW.out.size)
      obtain ⟨x, hx⟩ := get_some hlt
      obtain ⟨b, off, cs, e1, hbB, _, hc, hcell⟩ := (HNS.out.below (R' := IsN B wr) hbr hB (fun _ _ h => h.below hbr hB)).at hx
      obtain ⟨la, lc, ka, kc, va, vc, rfl⟩ := node_cells hc
      have hsx := HSM.out.2.1 j x hx
      subst e1
      have k0 : wr.cell? ⟨b, off + j * 4, none⟩ = some (.int .i64 x.id) := hcell 0 _ rfl
      have k1 := hcell 1 _ rfl
      have k2 := hcell 2 _ rfl
      have k3 := hcell 3 _ rfl
      have hzr := HO.out.kept.size
      have HCN := Lib.hid (fun (u' : World) (hb : Below wr.heap.size wr u') => rCopyNode_any x _ B u' (hc.below (B' := w.heap.size) (hb.mono hbr.size) hB) (Nat.le_trans hB (hbr.trans (hb.mono hbr.size)).size) hsx)
      have HSW : Hid (∀ u : World, (∀ q, q < wr.heap.size → (Value.slice a j c).ownBlock ≠ some q → u.heap[q]? = wr.heap[q]?) → (fun u : World => u.cell? ⟨bO, 0, none⟩ = some (.slice a j c) ∧ u.cell? ⟨w.heap.size, 0, none⟩ = some (.slice (some ⟨b, off, none⟩) g.nodes.length nc) ∧ u.cell? ⟨b, off + j * 4, none⟩ = some (.int .i64 x.id) ∧ u.cell? ⟨b, off + j * 4 + 1, none⟩ = some (.slice la x.labels.length lc) ∧ u.cell? ⟨b, off + j * 4 + 2, none⟩ = some (.slice ka x.keys.length kc) ∧ u.cell? ⟨b, off + j * 4 + 3, none⟩ = some (.slice va x.vals.length vc)) u) := Lib.hid (fun u h => ⟨(cell_heap (h bO HO.out.blk.lt (fun e => by have := (HO.out.row.own.lt bO e).1; have := HO.out.lt; omega))).trans (HO.out.blk.cell rfl), (cell_heap (h w.heap.size (by have := hbr.size; have := HO.out.blk.lt; have := HBO.out; omega) (fun e => by have := (HO.out.row.own.lt _ e).1; have := HWW.out; omega))).trans gc0, (cell_heap (h b (by have := hbr.size; omega) (fun e => by have := (HO.out.row.own.lt _ e).1; have := HWW.out; omega))).trans k0, (cell_heap (h b (by have := hbr.size; omega) (fun e => by have := (HO.out.row.own.lt _ e).1; have := HWW.out; omega))).trans k1, (cell_heap (h b (by have := hbr.size; omega) (fun e => by have := (HO.out.row.own.lt _ e).1; have := HWW.out; omega))).trans k2, (cell_heap (h b (by have := hbr.size; omega) (fun e => by have := (HO.out.row.own.lt _ e).1; have := HWW.out; omega))).trans k3⟩)
      have HXJ := Lib.hid hx
      clear hx hc hcell hsx hbB
      clear k0
      clear k1
      clear k2
      clear k3
      go_wp2_with fail
      refine wp_region_noPanic ?_
      refine wp_region_J (S := fun u : World => u.cell? ⟨bO, 0, none⟩ = some (.slice a j c) ∧ u.cell? ⟨w.heap.size, 0, none⟩ = some (.slice (some ⟨b, off, none⟩) g.nodes.length nc) ∧ u.cell? ⟨b, off + j * 4, none⟩ = some (.int .i64 x.id) ∧ u.cell? ⟨b, off + j * 4 + 1, none⟩ = some (.slice la x.labels.length lc) ∧ u.cell? ⟨b, off + j * 4 + 2, none⟩ = some (.slice ka x.keys.length kc) ∧ u.cell? ⟨b, off + j * 4 + 3, none⟩ = some (.slice va x.vals.length vc)) (fun j => j == 11) (by kernel_rfl) ?_
      obtain ⟨u0, hu0⟩ : ∃ u, wr.drew = u := ⟨_, rfl⟩
      have HO0 := Lib.hid (HO.out.drew ownIsNO)
      have HSS := Lib.hid (fun u' h => HSW.out u' (fun q hq hn => (h q hq hn).trans rfl) : ∀ u' : World, (∀ q, q < wr.drew.heap.size → (Value.slice a j c).ownBlock ≠ some q → u'.heap[q]? = wr.drew.heap[q]?) → (fun u : World => u.cell? ⟨bO, 0, none⟩ = some (.slice a j c) ∧ u.cell? ⟨w.heap.size, 0, none⟩ = some (.slice (some ⟨b, off, none⟩) g.nodes.length nc) ∧ u.cell? ⟨b, off + j * 4, none⟩ = some (.int .i64 x.id) ∧ u.cell? ⟨b, off + j * 4 + 1, none⟩ = some (.slice la x.labels.length lc) ∧ u.cell? ⟨b, off + j * 4 + 2, none⟩ = some (.slice ka x.keys.length kc) ∧ u.cell? ⟨b, off + j * 4 + 3, none⟩ = some (.slice va x.vals.length vc)) u')
      rw [hu0] at HO0 HSS ⊢
      have hHeld : (fun u : World => u.cell? ⟨bO, 0, none⟩ = some (.slice a j c) ∧ u.cell? ⟨w.heap.size, 0, none⟩ = some (.slice (some ⟨b, off, none⟩) g.nodes.length nc) ∧ u.cell? ⟨b, off + j * 4, none⟩ = some (.int .i64 x.id) ∧ u.cell? ⟨b, off + j * 4 + 1, none⟩ = some (.slice la x.labels.length lc) ∧ u.cell? ⟨b, off + j * 4 + 2, none⟩ = some (.slice ka x.keys.length kc) ∧ u.cell? ⟨b, off + j * 4 + 3, none⟩ = some (.slice va x.vals.length vc)) u0 := HSS.out u0 (fun _ _ _ => rfl)
      have HU0 := Lib.hid hu0
      clear hu0
      refine wpAnyJ_take0 (i := 0) (v := ?_) rfl (by kernel_rfl) (by kernel_rfl) (by kernel_rfl) (fun _ _ _ h => h) (Or.inl ⟨by rfl, ?_⟩) ?_
      rotate_left
      focus ((intro w hSw; clear hSw; go_simp); try with_reducible rfl)
      (try simp only [Act.put, List.getElem_toArray, List.getElem_cons_zero, List.getElem_cons_succ, List.setIfInBounds_toArray, List.set_cons_zero, List.set_cons_succ])
      refine wpAnyJ_take (i := 1) (v := ?_) rfl (by kernel_rfl) (by kernel_rfl) (by kernel_rfl) (by kernel_rfl) (fun _ _ _ h => h) (Or.inl ⟨by rfl, ?_⟩) (by assumption) ?_
      rotate_left
      focus ((intro w hSw; (try dsimp only at hSw); go_simp); try with_reducible rfl)
      (try simp only [Act.put, List.getElem_toArray, List.getElem_cons_zero, List.getElem_cons_succ, List.setIfInBounds_toArray, List.set_cons_zero, List.set_cons_succ])
      refine wpAnyJ_take0 (i := 2) (v := ?_) rfl (by kernel_rfl) (by kernel_rfl) (by kernel_rfl) (fun _ _ _ h => h) (Or.inl ⟨by rfl, ?_⟩) ?_
      rotate_left
      focus ((intro w hSw; clear hSw; go_simp); try with_reducible rfl)
      (try simp only [Act.put, List.getElem_toArray, List.getElem_cons_zero, List.getElem_cons_succ, List.setIfInBounds_toArray, List.set_cons_zero, List.set_cons_succ])
      refine wpAnyJ_take (i := 3) (v := ?_) rfl (by kernel_rfl) (by kernel_rfl) (by kernel_rfl) (by kernel_rfl) (fun _ _ _ h => h) (Or.inl ⟨by rfl, ?_⟩) (by assumption) ?_
      rotate_left
      focus ((intro w hSw; (try dsimp only at hSw); go_simp); try with_reducible rfl)
      (try simp only [Act.put, List.getElem_toArray, List.getElem_cons_zero, List.getElem_cons_succ, List.setIfInBounds_toArray, List.set_cons_zero, List.set_cons_succ])
      refine wpAnyJ_take0 (i := 4) (v := ?_) rfl (by kernel_rfl) (by kernel_rfl) (by kernel_rfl) (fun _ _ _ h => h) (Or.inl ⟨by rfl, ?_⟩) ?_
      rotate_left
      focus ((intro w hSw; clear hSw; go_simp); try with_reducible rfl)
      (try simp only [Act.put, List.getElem_toArray, List.getElem_cons_zero, List.getElem_cons_succ, List.setIfInBounds_toArray, List.set_cons_zero, List.set_cons_succ])
      refine wpAnyJ_take0 (i := 5) (v := ?_) rfl (by kernel_rfl) (by kernel_rfl) (by kernel_rfl) (fun _ _ _ h => h) (Or.inl ⟨by rfl, ?_⟩) ?_
      rotate_left
      focus ((intro w hSw; clear hSw; go_simp); try with_reducible rfl)
      (try simp only [Act.put, List.getElem_toArray, List.getElem_cons_zero, List.getElem_cons_succ, List.setIfInBounds_toArray, List.set_cons_zero, List.set_cons_succ])
      refine wpAnyJ_take (i := 6) (v := ?_) rfl (by kernel_rfl) (by kernel_rfl) (by kernel_rfl) (by kernel_rfl) (fun _ _ _ h => h) (Or.inl ⟨by rfl, ?_⟩) (by assumption) ?_
      rotate_left
      focus ((intro w hSw; (try dsimp only at hSw); go_simp); try with_reducible rfl)
      (try simp only [Act.put, List.getElem_toArray, List.getElem_cons_zero, List.getElem_cons_succ, List.setIfInBounds_toArray, List.set_cons_zero, List.set_cons_succ])
      refine wpAnyJ_ready (rs := [7]) (by kernel_rfl) (by simp) ?_
      refine AllReadyJ.cons rfl (fun KK hKK => ?_) AllReadyJ.nil
      go_simp
      go_at_call 40
      refine (HCN.out u0 (by rw [← HU0.out]; exact (Below.refl _ _).drew)).mono ?_
      rintro e u1 ⟨cs', bs', rfl, hb1, ho1, hn1, hr1⟩
      have ho2 := ho1
      obtain ⟨la', lc', ka', kc', va', vc', x1, x2, x3, hcs, -⟩ := ho2
      subst hcs
      have hH2 : (fun u : World => u.cell? ⟨bO, 0, none⟩ = some (.slice a j c) ∧ u.cell? ⟨w.heap.size, 0, none⟩ = some (.slice (some ⟨b, off, none⟩) g.nodes.length nc) ∧ u.cell? ⟨b, off + j * 4, none⟩ = some (.int .i64 x.id) ∧ u.cell? ⟨b, off + j * 4 + 1, none⟩ = some (.slice la x.labels.length lc) ∧ u.cell? ⟨b, off + j * 4 + 2, none⟩ = some (.slice ka x.keys.length kc) ∧ u.cell? ⟨b, off + j * 4 + 3, none⟩ = some (.slice va x.vals.length vc)) u1 := HSS.out u1 (fun q hq _ => hb1.block q hq)
      refine hKK.out _ _ (fun _ _ => hH2) ?_
      clear hKK KK hHeld
      have hHeld := hH2
      clear hH2
      have HC1 := Lib.hid (show _ ∧ _ ∧ _ ∧ _ from ⟨hb1, ho1, hn1, hr1⟩)
      have hz1 := hb1.size
      clear hb1 ho1 hn1 hr1
      (try simp only [Act.put, List.getElem_toArray, List.getElem_cons_zero, List.getElem_cons_succ, List.setIfInBounds_toArray, List.set_cons_zero, List.set_cons_succ])
      refine wpAnyJ_ready (rs := [8]) (by kernel_rfl) (by simp) ?_
      refine AllReadyJ.cons rfl (fun KK hKK => ?_) AllReadyJ.nil
      go_simp
      have hH2 : (fun u : World => u.cell? ⟨bO, 0, none⟩ = some (.slice a j c) ∧ u.cell? ⟨w.heap.size, 0, none⟩ = some (.slice (some ⟨b, off, none⟩) g.nodes.length nc) ∧ u.cell? ⟨b, off + j * 4, none⟩ = some (.int .i64 x.id) ∧ u.cell? ⟨b, off + j * 4 + 1, none⟩ = some (.slice la x.labels.length lc) ∧ u.cell? ⟨b, off + j * 4 + 2, none⟩ = some (.slice ka x.keys.length kc) ∧ u.cell? ⟨b, off + j * 4 + 3, none⟩ = some (.slice va x.vals.length vc)) (u1.alloc (.cells #[.int .i64 x.id, .slice la' x.labels.length lc', .slice ka' x.keys.length kc', .slice va' x.vals.length vc'] 38)) := HSS.out _ (fun q hq _ => by rw [Below.heap_alloc _ _ _ (Nat.lt_of_lt_of_le hq hz1)]; exact HC1.out.1.block q hq)
      refine hKK.out _ _ (fun _ _ => hH2) ?_
      clear hKK KK hHeld
      have hHeld := hH2
      clear hH2
      (try simp only [Act.put, List.getElem_toArray, List.getElem_cons_zero, List.getElem_cons_succ, List.setIfInBounds_toArray, List.set_cons_zero, List.set_cons_succ])
      refine wpAnyJ_ready (rs := [9]) (by kernel_rfl) (by simp) ?_
      refine AllReadyJ.cons rfl (fun KK hKK => ?_) AllReadyJ.nil
      refine step_append_lies _ (by rfl) _ _ 22 (by rfl) W0.heap.size 38 iN _ 4 80 Try.underlying22 siN szN s1N s2N rfl (by decide) (.slice a j c) j cl (by rfl) ((HO0.out.row.same ownIsNO HC1.out.1).own.alloc _) ⟨u1.heap.size, 0, none⟩ 1 1 [.int .i64 x.id, .slice la' x.labels.length lc', .slice ka' x.keys.length kc', .slice va' x.vals.length vc'] (by rfl) rfl (World.news_of_block (cs := #[.int .i64 x.id, .slice la' x.labels.length lc', .slice ka' x.keys.length kc', .slice va' x.vals.length vc']) (t := 38) (fr := (0, 0)) (Block.new u1 [.int .i64 x.id, .slice la' x.labels.length lc', .slice ka' x.keys.length kc', .slice va' x.vals.length vc'] 38)) (by simp [Value.oneCell']) (by decide) (by unfold maxLen; omega) (by omega) (by have := HO0.out.kept.size; simp; omega) (u1.heap.size + 1) (by simp) ?_
      intro gg cap u3 hown hgrow hat hlt3
      have HO3 := Lib.hid (OutS.app ownIsNO HO0.out HC1.out.1 HC1.out.2.1 HC1.out.2.2.1 HC1.out.2.2.2 hown hgrow rfl hat)
      have hH2 : (fun u : World => u.cell? ⟨bO, 0, none⟩ = some (.slice a j c) ∧ u.cell? ⟨w.heap.size, 0, none⟩ = some (.slice (some ⟨b, off, none⟩) g.nodes.length nc) ∧ u.cell? ⟨b, off + j * 4, none⟩ = some (.int .i64 x.id) ∧ u.cell? ⟨b, off + j * 4 + 1, none⟩ = some (.slice la x.labels.length lc) ∧ u.cell? ⟨b, off + j * 4 + 2, none⟩ = some (.slice ka x.keys.length kc) ∧ u.cell? ⟨b, off + j * 4 + 3, none⟩ = some (.slice va x.vals.length vc)) u3 := HSS.out u3 (fun q hq hn => by rw [hgrow.block q (by simp; omega) (fun e => hn e.symm), Below.heap_alloc _ _ _ (Nat.lt_of_lt_of_le hq hz1)]; exact HC1.out.1.block q hq)
      refine hKK.out _ _ (fun _ _ => hH2) ?_
      clear hKK KK hHeld
      have hHeld := hH2
      clear hH2 hown hgrow hat hlt3
      (try simp only [Act.put, List.getElem_toArray, List.getElem_cons_zero, List.getElem_cons_succ, List.setIfInBounds_toArray, List.set_cons_zero, List.set_cons_succ])
      refine wpAnyJ_take0 (i := 10) (v := ?_) rfl (by kernel_rfl) (by kernel_rfl) (by kernel_rfl) (fun _ _ _ h => h) (Or.inl ⟨by rfl, ?_⟩) ?_
      rotate_left
      focus ((intro w hSw; clear hSw; go_simp); try with_reducible rfl)
      (try simp only [Act.put, List.getElem_toArray, List.getElem_cons_zero, List.getElem_cons_succ, List.setIfInBounds_toArray, List.set_cons_zero, List.set_cons_succ])
      refine wpAnyJ_ready (rs := [11]) (by kernel_rfl) (by simp) ?_
      refine AllReadyJ.cons rfl (fun KK hKK => ?_) AllReadyJ.nil
      have y0 := HO3.out.blk.cell (i := 0) rfl
      have y1 := HO3.out.blk.free 0
      go_simp
      clear y0 y1
      have HO4 := Lib.hid (HO3.out.put ownIsNO rfl)
      refine hKK.out _ _ (fun h => absurd h (by decide)) ?_
      clear hKK KK hHeld HO3 HO0 HC1 HSS
      (try simp only [Act.put, List.getElem_toArray, List.getElem_cons_zero, List.getElem_cons_succ, List.setIfInBounds_toArray, List.set_cons_zero, List.set_cons_succ])
      refine wpAnyJ_done (by kernel_rfl) ?_ _
      refine NoPanic.normal ?_
      go_wp2_with fail
      go_roundw
      case rel => exact ⟨j + 1, _, _, _, _, by go_num, by omega, Lib.hid (by rw [take_succ_some HXJ.out]; exact HO4.out)⟩
      case measure => simp [intOf]; omega
    · have hlt' : ¬ (j : Int) < g.nodes.length := by omega
      have hjl : j = g.nodes.length := by omega
      have HO2 : Hid (OutS IsNO 38 4 W0 bO 0 25 (fun v => [v, .slice none 0 0]) wr (.slice a j c) (.slice a j c) j cl g.nodes bs) := Lib.hid (by have := HO.out; rwa [List.take_of_length_le (by omega)] at this)
      obtain ⟨na2, nc2, bn2, hv9, hc9, hp9, hn9, hr9⟩ := HO2.out.row.part ownIsNO
      injection hv9 with e1 e2 e3
      subst e1 e3
      have HJL := Lib.hid hjl
      have HRN : Hid (RowG IsNO 38 4 W0.heap.size wr (.slice a g.nodes.length c) g.nodes.length cl g.nodes bs) := Lib.hid (by have := HO2.out.row; rwa [hjl] at this)
      have hbr : Below w.heap.size w wr := HBW.out.trans (HO.out.kept.below (fun q hq => by have := HBO.out; simp at hq; omega) HBW.out.size)
      have HBR2 := Lib.hid hbr
      have HX12 : Hid (Block wr (w.heap.size + 1) [.slice none 0 0, .slice none 0 0] 25) := Lib.hid (HX1.out.of_heap (HO.out.kept.block _ HX1.out.lt (by have := HBO.out; simp; omega)))
      have HX02 := Lib.hid (HX0.out.of_heap (HO.out.kept.block w.heap.size HX0.out.lt (by have := HBO.out; simp; omega)))
      have HOE : Hid (OutS IsEO 40 6 wr bO 1 25 (fun v => [.slice a g.nodes.length c, v]) wr (.slice none 0 0) (.slice none 0 0) 0 [] (g.edges.take 0) []) := Lib.hid ⟨by have := HO2.out.blk; rwa [hjl] at this, RowG.nil _ _ _, Kept.refl _ _, HO2.out.blk.lt⟩
      have HWZ := Lib.hid (show w.heap.size + 2 < wr.heap.size from by have := HO.out.kept.size; have := HWW.out; omega)
      clear hc9 hp9 hn9 hr9 hbr hjl HO HO2 HWW
      have HWW := HWZ
      clear HWZ
      go_wp2_with fail
      rename World => wz
      go_loopw [5] (fun iv wr => ∃ (j : Nat) (ax : Option Addr) (cx : Nat) (cl : List Value) (bs : List Nat), iv = .int .i64 j ∧ j ≤ g.edges.length ∧ Hid (OutS IsEO 40 6 wz bO 1 25 (fun v => [.slice a g.nodes.length c, v]) wr (.slice ax j cx) (.slice ax j cx) j cl (g.edges.take j) bs)) (fun iv _ => g.edges.length - (intOf iv).toNat)
      case atStart => exact ⟨0, _, _, _, _, rfl, Nat.zero_le _, HOE⟩
      case round =>
        clear HOE hlt hlt' gc0 gc1
        obtain ⟨j, ax, cx, cl, bs, rfl, hj, HO⟩ := hrel
        have hgb := HX02.out.of_heap (HO.out.kept.block w.heap.size HX02.out.lt (by have := HBO.out; simp; omega))
        have gc0 := hgb.cell (i := 0) rfl
        have gc1 := hgb.cell (i := 1) rfl
        clear hgb
        by_cases hlt : j < g.edges.length
        · clear gc0
          have hlt' : (j : Int) < g.edges.length := by omega
          have hj0 : (0 : Int) ≤ (j : Int) := by omega
          have hbr : Below w.heap.size w wr := HBR2.out.trans (HO.out.kept.below (fun q hq => by have := HBO.out; simp at hq; omega) HBR2.out.size)
          obtain ⟨x, hx⟩ := get_some hlt
          obtain ⟨b, off, cs, e1, hbB, _, hc, hcell⟩ := (HES.out.below (R' := IsE B wr) hbr hB (fun _ _ h => h.below hbr hB)).at hx
          obtain ⟨ka, kc, va, vc, rfl⟩ := edge_cells hc
          have hsx := HSM.out.2.2 j x hx
          subst e1
          have k0 : wr.cell? ⟨b, off + j * 6, none⟩ = some (.int .i64 x.id) := hcell 0 _ rfl
          have k1 := hcell 1 _ rfl
          have k2 := hcell 2 _ rfl
          have k3 := hcell 3 _ rfl
          have k4 := hcell 4 _ rfl
          have k5 := hcell 5 _ rfl
          have hzr := HO.out.kept.size
          have HCN := Lib.hid (fun (u' : World) (hb : Below wr.heap.size wr u') => rCopyEdge_any x _ B u' (hc.below (B' := w.heap.size) (hb.mono hbr.size) hB) (Nat.le_trans hB (hbr.trans (hb.mono hbr.size)).size) hsx)
          have HSW : Hid (∀ u : World, (∀ q, q < wr.heap.size → (Value.slice ax j cx).ownBlock ≠ some q → u.heap[q]? = wr.heap[q]?) → (fun u : World => u.cell? ⟨bO, 1, none⟩ = some (.slice ax j cx) ∧ u.cell? ⟨w.heap.size, 1, none⟩ = some (.slice (some ⟨b, off, none⟩) g.edges.length ec) ∧ u.cell? ⟨b, off + j * 6, none⟩ = some (.int .i64 x.id) ∧ u.cell? ⟨b, off + j * 6 + 1, none⟩ = some (.int .i64 x.src) ∧ u.cell? ⟨b, off + j * 6 + 2, none⟩ = some (.int .i64 x.dst) ∧ u.cell? ⟨b, off + j * 6 + 3, none⟩ = some (.string x.ty) ∧ u.cell? ⟨b, off + j * 6 + 4, none⟩ = some (.slice ka x.keys.length kc) ∧ u.cell? ⟨b, off + j * 6 + 5, none⟩ = some (.slice va x.vals.length vc)) u) := Lib.hid (fun u h => ⟨(cell_heap (h bO HO.out.blk.lt (fun e => by have := (HO.out.row.own.lt bO e).1; have := HO.out.lt; omega))).trans (HO.out.blk.cell rfl), (cell_heap (h w.heap.size (by have := hbr.size; have := HO.out.blk.lt; have := HBO.out; omega) (fun e => by have := (HO.out.row.own.lt _ e).1; have := HWW.out; omega))).trans gc1, (cell_heap (h b (by have := hbr.size; omega) (fun e => by have := (HO.out.row.own.lt _ e).1; have := HWW.out; omega))).trans k0, (cell_heap (h b (by have := hbr.size; omega) (fun e => by have := (HO.out.row.own.lt _ e).1; have := HWW.out; omega))).trans k1, (cell_heap (h b (by have := hbr.size; omega) (fun e => by have := (HO.out.row.own.lt _ e).1; have := HWW.out; omega))).trans k2, (cell_heap (h b (by have := hbr.size; omega) (fun e => by have := (HO.out.row.own.lt _ e).1; have := HWW.out; omega))).trans k3, (cell_heap (h b (by have := hbr.size; omega) (fun e => by have := (HO.out.row.own.lt _ e).1; have := HWW.out; omega))).trans k4, (cell_heap (h b (by have := hbr.size; omega) (fun e => by have := (HO.out.row.own.lt _ e).1; have := HWW.out; omega))).trans k5⟩)
          have HXJ := Lib.hid hx
          clear hx hc hcell hsx hbB
          clear k0
          clear k1
          clear k2
          clear k3
          clear k4
          clear k5
          go_wp2_with fail
          refine wp_region_noPanic ?_
          refine wp_region_J (S := fun u : World => u.cell? ⟨bO, 1, none⟩ = some (.slice ax j cx) ∧ u.cell? ⟨w.heap.size, 1, none⟩ = some (.slice (some ⟨b, off, none⟩) g.edges.length ec) ∧ u.cell? ⟨b, off + j * 6, none⟩ = some (.int .i64 x.id) ∧ u.cell? ⟨b, off + j * 6 + 1, none⟩ = some (.int .i64 x.src) ∧ u.cell? ⟨b, off + j * 6 + 2, none⟩ = some (.int .i64 x.dst) ∧ u.cell? ⟨b, off + j * 6 + 3, none⟩ = some (.string x.ty) ∧ u.cell? ⟨b, off + j * 6 + 4, none⟩ = some (.slice ka x.keys.length kc) ∧ u.cell? ⟨b, off + j * 6 + 5, none⟩ = some (.slice va x.vals.length vc)) (fun j => j == 11) (by kernel_rfl) ?_
          obtain ⟨u0, hu0⟩ : ∃ u, wr.drew = u := ⟨_, rfl⟩
          have HO0 := Lib.hid (HO.out.drew ownIsEO)
          have HSS := Lib.hid (fun u' h => HSW.out u' (fun q hq hn => (h q hq hn).trans rfl) : ∀ u' : World, (∀ q, q < wr.drew.heap.size → (Value.slice ax j cx).ownBlock ≠ some q → u'.heap[q]? = wr.drew.heap[q]?) → (fun u : World => u.cell? ⟨bO, 1, none⟩ = some (.slice ax j cx) ∧ u.cell? ⟨w.heap.size, 1, none⟩ = some (.slice (some ⟨b, off, none⟩) g.edges.length ec) ∧ u.cell? ⟨b, off + j * 6, none⟩ = some (.int .i64 x.id) ∧ u.cell? ⟨b, off + j * 6 + 1, none⟩ = some (.int .i64 x.src) ∧ u.cell? ⟨b, off + j * 6 + 2, none⟩ = some (.int .i64 x.dst) ∧ u.cell? ⟨b, off + j * 6 + 3, none⟩ = some (.string x.ty) ∧ u.cell? ⟨b, off + j * 6 + 4, none⟩ = some (.slice ka x.keys.length kc) ∧ u.cell? ⟨b, off + j * 6 + 5, none⟩ = some (.slice va x.vals.length vc)) u')
          rw [hu0] at HO0 HSS ⊢
          have hHeld : (fun u : World => u.cell? ⟨bO, 1, none⟩ = some (.slice ax j cx) ∧ u.cell? ⟨w.heap.size, 1, none⟩ = some (.slice (some ⟨b, off, none⟩) g.edges.length ec) ∧ u.cell? ⟨b, off + j * 6, none⟩ = some (.int .i64 x.id) ∧ u.cell? ⟨b, off + j * 6 + 1, none⟩ = some (.int .i64 x.src) ∧ u.cell? ⟨b, off + j * 6 + 2, none⟩ = some (.int .i64 x.dst) ∧ u.cell? ⟨b, off + j * 6 + 3, none⟩ = some (.string x.ty) ∧ u.cell? ⟨b, off + j * 6 + 4, none⟩ = some (.slice ka x.keys.length kc) ∧ u.cell? ⟨b, off + j * 6 + 5, none⟩ = some (.slice va x.vals.length vc)) u0 := HSS.out u0 (fun _ _ _ => rfl)
          have HU0 := Lib.hid hu0
          clear hu0
          refine wpAnyJ_take0 (i := 0) (v := ?_) rfl (by kernel_rfl) (by kernel_rfl) (by kernel_rfl) (fun _ _ _ h => h) (Or.inl ⟨by rfl, ?_⟩) ?_
          rotate_left
          focus ((intro w hSw; clear hSw; go_simp); try with_reducible rfl)
          (try simp only [Act.put, List.getElem_toArray, List.getElem_cons_zero, List.getElem_cons_succ, List.setIfInBounds_toArray, List.set_cons_zero, List.set_cons_succ])
          refine wpAnyJ_take (i := 1) (v := ?_) rfl (by kernel_rfl) (by kernel_rfl) (by kernel_rfl) (by kernel_rfl) (fun _ _ _ h => h) (Or.inl ⟨by rfl, ?_⟩) (by assumption) ?_
          rotate_left
          focus ((intro w hSw; (try dsimp only at hSw); go_simp); try with_reducible rfl)
          (try simp only [Act.put, List.getElem_toArray, List.getElem_cons_zero, List.getElem_cons_succ, List.setIfInBounds_toArray, List.set_cons_zero, List.set_cons_succ])
          refine wpAnyJ_take0 (i := 2) (v := ?_) rfl (by kernel_rfl) (by kernel_rfl) (by kernel_rfl) (fun _ _ _ h => h) (Or.inl ⟨by rfl, ?_⟩) ?_
          rotate_left
          focus ((intro w hSw; clear hSw; go_simp); try with_reducible rfl)
          (try simp only [Act.put, List.getElem_toArray, List.getElem_cons_zero, List.getElem_cons_succ, List.setIfInBounds_toArray, List.set_cons_zero, List.set_cons_succ])
          refine wpAnyJ_take (i := 3) (v := ?_) rfl (by kernel_rfl) (by kernel_rfl) (by kernel_rfl) (by kernel_rfl) (fun _ _ _ h => h) (Or.inl ⟨by rfl, ?_⟩) (by assumption) ?_
          rotate_left
          focus ((intro w hSw; (try dsimp only at hSw); go_simp); try with_reducible rfl)
          (try simp only [Act.put, List.getElem_toArray, List.getElem_cons_zero, List.getElem_cons_succ, List.setIfInBounds_toArray, List.set_cons_zero, List.set_cons_succ])
          refine wpAnyJ_take0 (i := 4) (v := ?_) rfl (by kernel_rfl) (by kernel_rfl) (by kernel_rfl) (fun _ _ _ h => h) (Or.inl ⟨by rfl, ?_⟩) ?_
          rotate_left
          focus ((intro w hSw; clear hSw; go_simp); try with_reducible rfl)
          (try simp only [Act.put, List.getElem_toArray, List.getElem_cons_zero, List.getElem_cons_succ, List.setIfInBounds_toArray, List.set_cons_zero, List.set_cons_succ])
          refine wpAnyJ_take0 (i := 5) (v := ?_) rfl (by kernel_rfl) (by kernel_rfl) (by kernel_rfl) (fun _ _ _ h => h) (Or.inl ⟨by rfl, ?_⟩) ?_
          rotate_left
          focus ((intro w hSw; clear hSw; go_simp); try with_reducible rfl)
          (try simp only [Act.put, List.getElem_toArray, List.getElem_cons_zero, List.getElem_cons_succ, List.setIfInBounds_toArray, List.set_cons_zero, List.set_cons_succ])
          refine wpAnyJ_take (i := 6) (v := ?_) rfl (by kernel_rfl) (by kernel_rfl) (by kernel_rfl) (by kernel_rfl) (fun _ _ _ h => h) (Or.inl ⟨by rfl, ?_⟩) (by assumption) ?_
          rotate_left
          focus ((intro w hSw; (try dsimp only at hSw); go_simp); try with_reducible rfl)
          (try simp only [Act.put, List.getElem_toArray, List.getElem_cons_zero, List.getElem_cons_succ, List.setIfInBounds_toArray, List.set_cons_zero, List.set_cons_succ])
          refine wpAnyJ_ready (rs := [7]) (by kernel_rfl) (by simp) ?_
          refine AllReadyJ.cons rfl (fun KK hKK => ?_) AllReadyJ.nil
          go_simp
          go_at_call 41
          refine (HCN.out u0 (by rw [← HU0.out]; exact (Below.refl _ _).drew)).mono ?_
          rintro e u1 ⟨cs', bs', rfl, hb1, ho1, hn1, hr1⟩
          have ho2 := ho1
          obtain ⟨ka', kc', va', vc', x1, x2, hcs, -⟩ := ho2
          subst hcs
          have hH2 : (fun u : World => u.cell? ⟨bO, 1, none⟩ = some (.slice ax j cx) ∧ u.cell? ⟨w.heap.size, 1, none⟩ = some (.slice (some ⟨b, off, none⟩) g.edges.length ec) ∧ u.cell? ⟨b, off + j * 6, none⟩ = some (.int .i64 x.id) ∧ u.cell? ⟨b, off + j * 6 + 1, none⟩ = some (.int .i64 x.src) ∧ u.cell? ⟨b, off + j * 6 + 2, none⟩ = some (.int .i64 x.dst) ∧ u.cell? ⟨b, off + j * 6 + 3, none⟩ = some (.string x.ty) ∧ u.cell? ⟨b, off + j * 6 + 4, none⟩ = some (.slice ka x.keys.length kc) ∧ u.cell? ⟨b, off + j * 6 + 5, none⟩ = some (.slice va x.vals.length vc)) u1 := HSS.out u1 (fun q hq _ => hb1.block q hq)
          refine hKK.out _ _ (fun _ _ => hH2) ?_
          clear hKK KK hHeld
          have hHeld := hH2
          clear hH2
          have HC1 := Lib.hid (show _ ∧ _ ∧ _ ∧ _ from ⟨hb1, ho1, hn1, hr1⟩)
          have hz1 := hb1.size
          clear hb1 ho1 hn1 hr1
          (try simp only [Act.put, List.getElem_toArray, List.getElem_cons_zero, List.getElem_cons_succ, List.setIfInBounds_toArray, List.set_cons_zero, List.set_cons_succ])
          refine wpAnyJ_ready (rs := [8]) (by kernel_rfl) (by simp) ?_
          refine AllReadyJ.cons rfl (fun KK hKK => ?_) AllReadyJ.nil
          go_simp
          have hH2 : (fun u : World => u.cell? ⟨bO, 1, none⟩ = some (.slice ax j cx) ∧ u.cell? ⟨w.heap.size, 1, none⟩ = some (.slice (some ⟨b, off, none⟩) g.edges.length ec) ∧ u.cell? ⟨b, off + j * 6, none⟩ = some (.int .i64 x.id) ∧ u.cell? ⟨b, off + j * 6 + 1, none⟩ = some (.int .i64 x.src) ∧ u.cell? ⟨b, off + j * 6 + 2, none⟩ = some (.int .i64 x.dst) ∧ u.cell? ⟨b, off + j * 6 + 3, none⟩ = some (.string x.ty) ∧ u.cell? ⟨b, off + j * 6 + 4, none⟩ = some (.slice ka x.keys.length kc) ∧ u.cell? ⟨b, off + j * 6 + 5, none⟩ = some (.slice va x.vals.length vc)) (u1.alloc (.cells #[.int .i64 x.id, .int .i64 x.src, .int .i64 x.dst, .string x.ty, .slice ka' x.keys.length kc', .slice va' x.vals.length vc'] 40)) := HSS.out _ (fun q hq _ => by rw [Below.heap_alloc _ _ _ (Nat.lt_of_lt_of_le hq hz1)]; exact HC1.out.1.block q hq)
          refine hKK.out _ _ (fun _ _ => hH2) ?_
          clear hKK KK hHeld
          have hHeld := hH2
          clear hH2
          (try simp only [Act.put, List.getElem_toArray, List.getElem_cons_zero, List.getElem_cons_succ, List.setIfInBounds_toArray, List.set_cons_zero, List.set_cons_succ])
          refine wpAnyJ_ready (rs := [9]) (by kernel_rfl) (by simp) ?_
          refine AllReadyJ.cons rfl (fun KK hKK => ?_) AllReadyJ.nil
          refine step_append_lies _ (by rfl) _ _ 23 (by rfl) wz.heap.size 40 iE _ 6 88 Try.underlying23 siE szE s1E s2E rfl (by decide) (.slice ax j cx) j cl (by rfl) ((HO0.out.row.same ownIsEO HC1.out.1).own.alloc _) ⟨u1.heap.size, 0, none⟩ 1 1 [.int .i64 x.id, .int .i64 x.src, .int .i64 x.dst, .string x.ty, .slice ka' x.keys.length kc', .slice va' x.vals.length vc'] (by rfl) rfl (World.news_of_block (cs := #[.int .i64 x.id, .int .i64 x.src, .int .i64 x.dst, .string x.ty, .slice ka' x.keys.length kc', .slice va' x.vals.length vc']) (t := 40) (fr := (0, 0)) (Block.new u1 [.int .i64 x.id, .int .i64 x.src, .int .i64 x.dst, .string x.ty, .slice ka' x.keys.length kc', .slice va' x.vals.length vc'] 40)) (by simp [Value.oneCell']) (by decide) (by unfold maxLen; omega) (by omega) (by have := HO0.out.kept.size; simp; omega) (u1.heap.size + 1) (by simp) ?_
          intro gg cap u3 hown hgrow hat hlt3
          have HO3 := Lib.hid (OutS.app ownIsEO HO0.out HC1.out.1 HC1.out.2.1 HC1.out.2.2.1 HC1.out.2.2.2 hown hgrow rfl hat)
          have hH2 : (fun u : World => u.cell? ⟨bO, 1, none⟩ = some (.slice ax j cx) ∧ u.cell? ⟨w.heap.size, 1, none⟩ = some (.slice (some ⟨b, off, none⟩) g.edges.length ec) ∧ u.cell? ⟨b, off + j * 6, none⟩ = some (.int .i64 x.id) ∧ u.cell? ⟨b, off + j * 6 + 1, none⟩ = some (.int .i64 x.src) ∧ u.cell? ⟨b, off + j * 6 + 2, none⟩ = some (.int .i64 x.dst) ∧ u.cell? ⟨b, off + j * 6 + 3, none⟩ = some (.string x.ty) ∧ u.cell? ⟨b, off + j * 6 + 4, none⟩ = some (.slice ka x.keys.length kc) ∧ u.cell? ⟨b, off + j * 6 + 5, none⟩ = some (.slice va x.vals.length vc)) u3 := HSS.out u3 (fun q hq hn => by rw [hgrow.block q (by simp; omega) (fun e => hn e.symm), Below.heap_alloc _ _ _ (Nat.lt_of_lt_of_le hq hz1)]; exact HC1.out.1.block q hq)
          refine hKK.out _ _ (fun _ _ => hH2) ?_
          clear hKK KK hHeld
          have hHeld := hH2
          clear hH2 hown hgrow hat hlt3
          (try simp only [Act.put, List.getElem_toArray, List.getElem_cons_zero, List.getElem_cons_succ, List.setIfInBounds_toArray, List.set_cons_zero, List.set_cons_succ])
          refine wpAnyJ_take0 (i := 10) (v := ?_) rfl (by kernel_rfl) (by kernel_rfl) (by kernel_rfl) (fun _ _ _ h => h) (Or.inl ⟨by rfl, ?_⟩) ?_
          rotate_left
          focus ((intro w hSw; clear hSw; go_simp); try with_reducible rfl)
          (try simp only [Act.put, List.getElem_toArray, List.getElem_cons_zero, List.getElem_cons_succ, List.setIfInBounds_toArray, List.set_cons_zero, List.set_cons_succ])
          refine wpAnyJ_ready (rs := [11]) (by kernel_rfl) (by simp) ?_
          refine AllReadyJ.cons rfl (fun KK hKK => ?_) AllReadyJ.nil
          have y0 := HO3.out.blk.cell (i := 1) rfl
          have y1 := HO3.out.blk.free 1
          go_simp
          clear y0 y1
          have HO4 := Lib.hid (HO3.out.put ownIsEO rfl)
          refine hKK.out _ _ (fun h => absurd h (by decide)) ?_
          clear hKK KK hHeld HO3 HO0 HC1 HSS
          (try simp only [Act.put, List.getElem_toArray, List.getElem_cons_zero, List.getElem_cons_succ, List.setIfInBounds_toArray, List.set_cons_zero, List.set_cons_succ])
          refine wpAnyJ_done (by kernel_rfl) ?_ _
          refine NoPanic.normal ?_
          go_wp2_with fail
          go_roundw
          case rel => exact ⟨j + 1, _, _, _, _, by go_num, by omega, Lib.hid (by rw [take_succ_some HXJ.out]; exact HO4.out)⟩
          case measure => simp [intOf]; omega
        · have hlt' : ¬ (j : Int) < g.edges.length := by omega
          have hjl : j = g.edges.length := by omega
          have HO2 : Hid (OutS IsEO 40 6 wz bO 1 25 (fun v => [.slice a g.nodes.length c, v]) wr (.slice ax j cx) (.slice ax j cx) j cl g.edges bs) := Lib.hid (by have := HO.out; rwa [List.take_of_length_le (by omega)] at this)
          obtain ⟨ea2, ec2, bn2, hv9, hc9, hp9, hn9, hr9⟩ := HO2.out.row.part ownIsEO
          injection hv9 with e1 e2 e3
          subst e1 e3
          have HRE : Hid (RowG IsEO 40 6 wz.heap.size wr (.slice ax g.edges.length cx) g.edges.length cl g.edges bs) := Lib.hid (by have := HO2.out.row; rwa [hjl] at this)
          have HJE := Lib.hid hjl
          have y1 := HX12.out.of_heap (HO.out.kept.block _ HX12.out.lt (by have := HBO.out; simp; omega))
          have m0 := HO2.out.blk.cell (i := 0) rfl
          have m1 := HO2.out.blk.cell (i := 1) rfl
          have z0 := y1.cell (i := 0) rfl
          have z1 := y1.cell (i := 1) rfl
          have n0 := y1.free 0
          have n1 := y1.free 1
          obtain ⟨q0, q1⟩ := two_cells y1 (.slice a g.nodes.length c) (.slice ax j cx)
          clear hc9 hp9 hn9 hr9 hjl y1
          go_wp2_with fail
          refine bodyPost_ret (by simp [results, Try.results12, go_sem, q0, q1]; rfl) rfl ?_
          have hje := HJE.out
          subst hje
          have hzx := HO2.out.kept.size
          have hb0 := HBO.out
          have hzw := HBW.out.size
          have hww := HWW.out
          have hz0 := HZ0.out
          have hzw' : w.heap.size ≤ W0.heap.size := hzw
          have hkx : ∀ q, q ≠ w.heap.size + 1 → (((wr.setCell ⟨w.heap.size + 1, 0, none⟩ (.slice a g.nodes.length c)).setCell ⟨w.heap.size + 1, 1, none⟩ (.slice ax g.edges.length cx))).heap[q]? = wr.heap[q]? := fun q hq => by
            rw [Below.heap_setCell _ _ _ _ (by show q ≠ w.heap.size + 1; omega), Below.heap_setCell _ _ _ _ (by show q ≠ w.heap.size + 1; omega)]
          have hzs : (((wr.setCell ⟨w.heap.size + 1, 0, none⟩ (.slice a g.nodes.length c)).setCell ⟨w.heap.size + 1, 1, none⟩ (.slice ax g.edges.length cx))).heap.size = wr.heap.size := by simp [World.setCell]
          refine ⟨a, c, ax, cx, _, _, _, _, wz.heap.size, rfl, ?_, (HRN.out.frame ownIsNO (fun q h1 h2 => ?_) ?_).base hzw', fun q hq => ?_, HRE.out.frame ownIsEO (fun q h1 h2 => hkx q ?_) ?_, ?_⟩
          · exact (((HBR2.out.trans (HO2.out.kept.below (fun q hq => by simp at hq; omega) HBR2.out.size)).setCell (by show w.heap.size ≤ w.heap.size + 1; omega) _).setCell (by show w.heap.size ≤ w.heap.size + 1; omega) _)
          · rw [hkx q (by omega), HO2.out.kept.block q (by omega) (by simp; omega)]
          · rw [hzs]; omega
          · rcases hq with hq | hq
            · exact (HRN.out.lt q hq).2
            · exact (HRN.out.own.lt q hq).2
          · omega
          · rw [hzs]; exact Nat.le_refl _
          · exact Nat.le_trans hzw' (by have := HBR2.out.size; omega)
theorem rCopyG_any (g : Gt) (cs : List Value) (B : Nat) (w : World) (h : IsG B w cs g) (hB : B ≤ w.heap.size) (hs : SmG g) :
    Calls Try.prog 12 #[.agg cs.toArray] w (FreshP IsGO g w) := (rCopyG_own g cs B w h hB hs).mono fun _ _ h => h.fresh
end Go.Proofs.Ytoakloicjlfaaaa

/- Layer 14: rows of structs as flat lists of cells. Conditions: none. -/
namespace Go.Proofs.Ytoakloicjlfaaaa
open Go.RowKit
set_option linter.unusedSimpArgs false
set_option linter.unusedVariables false

/-- These cells are those elements, one behind the other. -/
structure FlatR {α : Type} (R : List Value → α → Prop) (size : Nat) (cl : List Value) (l : List α) : Prop where
  len : cl.length = l.length * size
  one : ∀ u ∈ cl, u.oneCell' = true
  get : ∀ (i : Nat) (o : α), l[i]? = some o → R ((cl.drop (i * size)).take size) o
section
variable {α : Type} {R R' : List Value → α → Prop} {size B B' : Nat} {w w' : World} {a : Option Addr} {l m : List α} {cl dl cs : List Value} {o x : α} {i : Nat}
theorem FlatR.nil : FlatR R size [] ([] : List α) := ⟨by simp, by simp, by simp⟩
theorem FlatR.single (h : R cs x) (hl : cs.length = size) (h1 : ∀ u ∈ cs, u.oneCell' = true) : FlatR R size cs [x] := by
  refine ⟨by simp [hl], h1, fun i o ho => ?_⟩
  cases i with
  | zero => simp at ho; subst ho; simpa [← hl] using h
  | succ i => simp at ho
theorem FlatR.mono (h : FlatR R size cl l) (hR : ∀ cs x, R cs x → R' cs x) : FlatR R' size cl l := ⟨h.len, h.one, fun i o ho => hR _ _ (h.get i o ho)⟩
theorem FlatR.append (h : FlatR R size cl l) (h2 : FlatR R size dl m) : FlatR R size (cl ++ dl) (l ++ m) := by
  refine ⟨by simp [h.len, h2.len, Nat.add_mul], fun u hu => ?_, fun i o ho => ?_⟩
  · rcases List.mem_append.1 hu with hu | hu
    · exact h.one u hu
    · exact h2.one u hu
  · by_cases hi : i < l.length
    · rw [List.getElem?_append_left hi] at ho
      have := h.get i o ho
      have h3 : i * size + size ≤ cl.length := by rw [h.len, ← Nat.succ_mul]; exact Nat.mul_le_mul_right _ hi
      rw [List.drop_append_of_le_length (by omega), List.take_append_of_le_length (by rw [List.length_drop]; omega)]
      exact this
    · rw [List.getElem?_append_right (by omega)] at ho
      have := h2.get _ o ho
      have h3 : cl.length ≤ i * size := by rw [h.len]; exact Nat.mul_le_mul_right _ (by omega)
      rw [List.drop_append, List.drop_eq_nil_of_le h3, List.nil_append, h.len, ← Nat.sub_mul]
      exact this
theorem FlatR.take (h : FlatR R size cl l) (k : Nat) (hk : k ≤ l.length) : FlatR R size (cl.take (k * size)) (l.take k) := by
  have h3 : k * size ≤ cl.length := by rw [h.len]; exact Nat.mul_le_mul_right _ hk
  refine ⟨by rw [List.length_take, List.length_take, Nat.min_eq_left h3, Nat.min_eq_left hk], fun u hu => h.one u (List.mem_of_mem_take hu), fun i o ho => ?_⟩
  have hi : i < k := by have := (List.getElem?_eq_some_iff.1 ho).1; rw [List.length_take] at this; omega
  rw [List.getElem?_take_of_lt hi] at ho
  have := h.get i o ho
  have h4 : i * size + size ≤ k * size := by rw [← Nat.succ_mul]; exact Nat.mul_le_mul_right _ hi
  rw [List.drop_take, List.take_take, Nat.min_eq_left (by omega)]
  exact this
theorem FlatR.drop (h : FlatR R size cl l) (k : Nat) : FlatR R size (cl.drop (k * size)) (l.drop k) := by
  refine ⟨by rw [List.length_drop, List.length_drop, h.len, Nat.sub_mul], fun u hu => h.one u (List.mem_of_mem_drop hu), fun i o ho => ?_⟩
  rw [List.getElem?_drop] at ho
  have := h.get _ o ho
  rw [List.drop_drop, ← Nat.add_mul]
  exact this
theorem FlatR.cell (h : FlatR R size cl l) (ho : l[i]? = some o) : ∃ cs, cs.length = size ∧ R cs o ∧ ∀ (j : Nat) v, cs[j]? = some v → cl[i * size + j]? = some v := by
  have hi : i < l.length := (List.getElem?_eq_some_iff.1 ho).1
  have h4 : i * size + size ≤ cl.length := by rw [h.len, ← Nat.succ_mul]; exact Nat.mul_le_mul_right _ hi
  refine ⟨(cl.drop (i * size)).take size, by rw [List.length_take, List.length_drop]; omega, h.get i o ho, fun j v hv => ?_⟩
  have hj : j < size := by have := (List.getElem?_eq_some_iff.1 hv).1; rw [List.length_take] at this; omega
  rw [List.getElem?_take_of_lt hj, List.getElem?_drop] at hv
  exact hv
/-- A row below block B, as a flat list of cells. -/
theorem RowR.flat (h : RowR R size B w a l) (h1 : ∀ cs x, R cs x → ∀ u ∈ cs, u.oneCell' = true) (hs : 0 < size) : ∃ cl, FlatR R size cl l ∧ Cells B w a cl := by
  cases l with
  | nil => exact ⟨[], FlatR.nil, .inl rfl⟩
  | cons y ys =>
    obtain ⟨b, off, cs0, rfl, hb, hl0, hc0, hR0⟩ := h 0 y rfl
    obtain ⟨cl, hcl⟩ : ∃ cl : List Value, cl = (List.range ((y :: ys).length * size)).map fun k => (w.cell? ⟨b, off + k, none⟩).getD default := ⟨_, rfl⟩
    have hlen : cl.length = (y :: ys).length * size := by rw [hcl]; simp
    have hget : ∀ (i : Nat) (o : α), (y :: ys)[i]? = some o → ∃ cs, cs.length = size ∧ R cs o ∧ (∀ (j : Nat) v, cs[j]? = some v → w.cell? ⟨b, off + (i * size + j), none⟩ = some v) ∧ (cl.drop (i * size)).take size = cs := fun i o ho => by
      obtain ⟨b', off', cs, e, _, hl, hc, hR⟩ := h i o ho
      injection e with e; injection e with e1 e2; subst e1 e2
      refine ⟨cs, hl, hR, hc, List.ext_getElem? fun j => ?_⟩
      have hi : i < (y :: ys).length := (List.getElem?_eq_some_iff.1 ho).1
      have h4 : i * size + size ≤ (y :: ys).length * size := by rw [← Nat.succ_mul]; exact Nat.mul_le_mul_right _ hi
      by_cases hj : j < size
      · rw [List.getElem?_take_of_lt hj, List.getElem?_drop, hcl, List.getElem?_map, List.getElem?_range (by omega)]
        have := hc j cs[j] (List.getElem?_eq_getElem (by omega))
        rw [Option.map_some, this, List.getElem?_eq_getElem (by omega)]
        rfl
      · rw [List.getElem?_eq_none (by rw [List.length_take]; omega), List.getElem?_eq_none (by omega)]
    have hall : ∀ k, k < cl.length → ∃ v, cl[k]? = some v ∧ w.cell? ⟨b, off + k, none⟩ = some v ∧ v.oneCell' = true := fun k hk => by
      rw [hlen] at hk
      have hq : k / size < (y :: ys).length := Nat.div_lt_of_lt_mul (by rwa [Nat.mul_comm])
      obtain ⟨cs, hl, hR, hc, ht⟩ := hget (k / size) _ (List.getElem?_eq_getElem hq)
      have hm := Nat.mod_lt k hs
      have e : k / size * size + k % size = k := by rw [Nat.mul_comm]; exact Nat.div_add_mod k size
      have h5 : cs[k % size]? = some cs[k % size] := List.getElem?_eq_getElem (by omega)
      have h6 := hc _ _ h5
      rw [e] at h6
      refine ⟨cs[k % size], ?_, h6, h1 _ _ hR _ (List.getElem_mem _)⟩
      rw [hcl, List.getElem?_map, List.getElem?_range (by omega), Option.map_some, h6]
      rfl
    refine ⟨cl, ⟨hlen, fun u hu => ?_, fun i o ho => ?_⟩, .inr ⟨b, off, rfl, hb, fun k v hv => ?_⟩⟩
    · obtain ⟨k, hk⟩ := List.getElem?_of_mem hu
      obtain ⟨v, e1, _, e2⟩ := hall k (List.getElem?_eq_some_iff.1 hk).1
      rw [e1] at hk; injection hk with hk; subst hk; exact e2
    · obtain ⟨cs, _, hR, _, ht⟩ := hget i o ho
      rw [ht]; exact hR
    · obtain ⟨v', e1, e2, _⟩ := hall k (List.getElem?_eq_some_iff.1 hv).1
      rw [e1] at hv; injection hv with hv; subst hv; exact e2
theorem FlatR.row (h : FlatR R size cl l) (hs : 0 < size) (hc : Cells B w a cl) : RowR R size B w a l := by
  intro i o ho
  obtain ⟨cs, hl, hR, hg⟩ := h.cell ho
  rcases hc with hc | ⟨b, off, rfl, hb, hc⟩
  · have hi : i < l.length := (List.getElem?_eq_some_iff.1 ho).1
    have := h.len
    rw [hc] at this
    have h2 : 0 < l.length * size := Nat.mul_pos (by omega) hs
    simp at this
    omega
  · exact ⟨b, off, cs, rfl, hb, hl, fun j v hv => hc _ v (hg j v hv), hR⟩
/-- An own row is a row below the end of the memory. -/
theorem own_cells {base : Nat} {ty : TypeId} {v : Value} {n : Nat} (h : w.ownsRow base ty size v n cl) : ∃ a c, v = .slice a n c ∧ SlOk a n c ∧ Cells w.heap.size w a cl := by
  obtain ⟨h1, h2⟩ := h
  rcases h2 with ⟨rfl, h3⟩ | ⟨g, cap, cur, rfl, hb, hh, hn, hm, hs, ht⟩
  · refine ⟨none, 0, by rw [h3], ⟨⟨by omega, by omega⟩, fun _ => rfl⟩, .inl ?_⟩
    exact List.eq_nil_of_length_eq_zero (by rw [h1, h3]; simp)
  · refine ⟨some ⟨g, 0, none⟩, cap, rfl, ⟨⟨hn, by unfold maxLen at hm; omega⟩, (fun e => by cases e)⟩, .inr ⟨g, 0, rfl, (Array.getElem?_eq_some_iff.1 hh).1, fun k v hv => ?_⟩⟩
    rw [← ht] at hv
    have hk : k < n * size := by have := (List.getElem?_eq_some_iff.1 hv).1; rw [List.length_take] at this; omega
    rw [List.getElem?_take_of_lt hk] at hv
    rw [Array.getElem?_toList] at hv
    simp [World.cell?, hh, hv]
theorem Cells.dropN {vs : List Value} (h : Cells B w a vs) (k : Nat) : Cells B w (Option.map (fun x => x.add k) a) (vs.drop k) := by
  rcases h with h | ⟨b, off, h1, h2, h3⟩
  · exact .inl (by simp [h])
  · subst h1
    refine .inr ⟨b, off + k, by simp [Addr.add_lit], h2, fun i v hi => ?_⟩
    rw [List.getElem?_drop] at hi
    rw [Nat.add_assoc]; exact h3 _ v hi
theorem Cells.takeN {vs : List Value} (h : Cells B w a vs) (k : Nat) : Cells B w a (vs.take k) := by
  rcases h with h | ⟨b, off, h1, h2, h3⟩
  · exact .inl (by simp [h])
  · refine .inr ⟨b, off, h1, h2, fun i v hi => h3 i v ?_⟩
    rw [List.getElem?_take] at hi
    split at hi
    · exact hi
    · cases hi
end
theorem IsN.one {B : Nat} {w : World} : ∀ (cs : List Value) (n : Nt), IsN B w cs n → ∀ u ∈ cs, u.oneCell' = true := by
  intro cs n ⟨la, lc, ka, kc, va, vc, h, _⟩ u hu
  subst h
  simp at hu
  rcases hu with rfl | rfl | rfl | rfl <;> rfl
theorem IsE.one {B : Nat} {w : World} : ∀ (cs : List Value) (n : Et), IsE B w cs n → ∀ u ∈ cs, u.oneCell' = true := by
  intro cs n ⟨ka, kc, va, vc, h, _⟩ u hu
  subst h
  simp at hu
  rcases hu with rfl | rfl | rfl | rfl | rfl | rfl <;> rfl
theorem IsN.len {B : Nat} {w : World} {cs : List Value} {n : Nt} (h : IsN B w cs n) : cs.length = 4 := by
  obtain ⟨la, lc, ka, kc, va, vc, h, _⟩ := h
  rw [h]; rfl
theorem IsE.len {B : Nat} {w : World} {cs : List Value} {n : Et} (h : IsE B w cs n) : cs.length = 6 := by
  obtain ⟨ka, kc, va, vc, h, _⟩ := h
  rw [h]; rfl
/-- A list with one thing more, or in another one's place. -/
def setL {α : Type} (l : List α) (i : Nat) (is : Bool) (x : α) : List α := l.take i ++ (x :: l.drop (if is then i + 1 else i))
end Go.Proofs.Ytoakloicjlfaaaa

/- Layer 14: a row with one element more, or in another one's place: the program's set. Conditions: the place is within the row. -/
namespace Go.Proofs.Ytoakloicjlfaaaa
open Go.RowKit
set_option linter.unusedSimpArgs false
set_option linter.unusedVariables false
set_option maxRecDepth 100000

/-- What comes is a row of those elements, made anew; the elements' own memory lies below block B. -/
def RowP {α : Type} (R : Nat → World → List Value → α → Prop) (ty : TypeId) (size B : Nat) (l : List α) (w : World) (e : Ending) (w' : World) : Prop :=
  ∃ a c cl, e = .returned (.slice a l.length c) ∧ Below w.heap.size w w' ∧ w'.ownsRow w.heap.size ty size (.slice a l.length c) l.length cl ∧ FlatR (R B w) size cl l
theorem own_base {w : World} {base b : Nat} {ty : TypeId} {size n : Nat} {v : Value} {cl : List Value} (h : w.ownsRow base ty size v n cl) (hb : b ≤ base) : w.ownsRow b ty size v n cl := by
  obtain ⟨h1, h2⟩ := h
  refine ⟨h1, ?_⟩
  rcases h2 with h2 | ⟨g, cap, cur, e1, e2, e3⟩
  · exact .inl h2
  · exact .inr ⟨g, cap, cur, e1, Nat.le_trans hb e2, e3⟩
theorem setL_length {α : Type} {l : List α} {i : Nat} {is : Bool} {x : α} (hi : i ≤ l.length) : (setL l i is x).length = i + 1 + (l.length - if is then i + 1 else i) := by
  unfold setL
  rw [List.length_append, List.length_take, List.length_cons, List.length_drop, Nat.min_eq_left hi]
  omega
theorem RowP.set {α : Type} {R : Nat → World → List Value → α → Prop} {size : Nat} {l : List α} {i k : Nat} {is : Bool} {x : α} {w w' : World} {B : Nat} {cl cs : List Value} {v : Value} {base : Nat} {ty : TypeId}
    (hs : 0 < size) (hf : FlatR (R B w) size cl l) (hx : R B w cs x) (hcs : cs.length = size) (h1 : ∀ u ∈ cs, u.oneCell' = true) (hi : i ≤ l.length) (hk : k = if is then i + 1 else i) (hb : Below w.heap.size w w') (hbase : w.heap.size ≤ base) (hown : w'.ownsRow base ty size v (i + 1 + (l.length - k)) (cl.take (i * size) ++ cs ++ cl.drop (k * size))) :
    RowP R ty size B (setL l i is x) w (.returned v) w' := by
  have hF : FlatR (R B w) size (cl.take (i * size) ++ cs ++ cl.drop (k * size)) (setL l i is x) := by
    have h2 := (hf.take i hi).append (FlatR.single hx hcs h1) |>.append (hf.drop k)
    unfold setL
    rw [hk] at h2 ⊢
    simpa using h2
  have e := setL_length (x := x) (is := is) hi
  rw [← hk] at e
  obtain ⟨a, c, rfl, -, -⟩ := own_cells hown
  exact ⟨a, c, _, by rw [e], hb, by rw [e]; exact own_base hown hbase, hF⟩

set_option maxHeartbeats 8000000 in
theorem setNode_any (l : List Nt) (x : Nt) (i : Nat) (is : Bool) (a : Option Addr) (c B : Nat) (cs : List Value) (w : World) (h : RowR (IsN B w) 4 B w a l) (hB : B ≤ w.heap.size) (hs : SlOk a l.length c) (hx : IsN B w cs x) (hi : i ≤ l.length) (his : is = true → i < l.length) (hl : l.length ≤ 1048576) :
    Calls Try.prog 50 #[.slice a l.length c, .int .i64 i, .bool is, .agg cs.toArray] w (RowP IsN 38 4 B (setL l i is x) w) := by
  obtain ⟨cl, hF, hC⟩ := h.flat IsN.one (by decide)
  have HX := Lib.hid hx
  have HX1 := Lib.hid (IsN.one _ _ hx)
  have HXL := Lib.hid hx.len
  obtain ⟨la, lc, ka, kc, va, vc, rfl⟩ := node_cells hx
  show Calls Try.prog 50 #[.slice a l.length c, .int .i64 i, .bool is, .agg #[.int .i64 x.id, .slice la x.labels.length lc, .slice ka x.keys.length kc, .slice va x.vals.length vc]] w _
  obtain ⟨iS, siS, szS, s1S, s2S⟩ := info_parts Try.infoNode
  obtain ⟨W0, hW0⟩ : ∃ W0, w.alloc (.cells #[.int .i64 x.id, .slice la x.labels.length lc, .slice ka x.keys.length kc, .slice va x.vals.length vc] 38) = W0 := ⟨_, rfl⟩
  have hBW : Below w.heap.size w W0 := by rw [← hW0]; exact (Below.refl _ _).alloc (Nat.le_refl _) _
  have hX0 : Block W0 w.heap.size [.int .i64 x.id, .slice la x.labels.length lc, .slice ka x.keys.length kc, .slice va x.vals.length vc] 38 := by rw [← hW0]; exact Block.new w _ _
  have hz0 : w.heap.size + 1 = W0.heap.size := by rw [← hW0]; simp
  obtain ⟨n, hn⟩ : ∃ n, l.length = n := ⟨_, rfl⟩
  have HN := Lib.hid hn
  have HF := Lib.hid hF
  have HC := Lib.hid (hC.below hBW hB)
  have HC0 := Lib.hid hC
  have HX0 := Lib.hid hX0
  have HBW := Lib.hid hBW
  have HZ0 := Lib.hid hz0
  have HW0 := Lib.hid hW0
  have HIS := Lib.hid his
  have hCl : cl.length = n * 4 := by rw [hF.len, hn]
  have HCl := Lib.hid hCl
  obtain ⟨Q, hQ⟩ : ∃ Q, RowP IsN 38 4 B (setL l i is x) w = Q := ⟨_, rfl⟩
  have HQ := Lib.hid hQ
  rw [hQ]
  obtain ⟨⟨hsc, hcm⟩, hnone⟩ := hs
  rw [hn] at hi hl hsc ⊢
  have HNO := Lib.hid hnone
  have hi' : (i : Int) ≤ n := by omega
  have hi0 : (0 : Int) ≤ i := by omega
  have hic : (i : Int) ≤ c := by omega
  have hic' : ¬ (c < i) := by omega
  have hic2 : i ≤ c := by omega
  have hin : ¬ (n < i) := by omega
  clear hX0 hBW hz0 hW0 hF hC hx h his hn hCl hQ hnone
  go_enter Try.func50, Try.ntmps50
  go_wp2_with fail
  rw [HW0.out]
  obtain ⟨k, hk⟩ : ∃ k, k = (if is then i + 1 else i) := ⟨_, rfl⟩
  have hkn : k ≤ n := by rw [hk]; cases is with | true => have := HIS.out rfl; have := HN.out; simp; omega | false => simp; omega
  have HK := Lib.hid hk
  have HKN := Lib.hid hkn
  refine wp_region_noPanic ?_
  refine wp_region_J (S := fun u : World => u.cell? ⟨w.heap.size, 0, none⟩ = some (.int .i64 x.id) ∧ u.cell? ⟨w.heap.size, 1, none⟩ = some (.slice la x.labels.length lc) ∧ u.cell? ⟨w.heap.size, 2, none⟩ = some (.slice ka x.keys.length kc) ∧ u.cell? ⟨w.heap.size, 3, none⟩ = some (.slice va x.vals.length vc)) (fun j => j == 7) (by kernel_rfl) ?_
  obtain ⟨w0, hw0⟩ : ∃ u, W0.drew = u := ⟨_, rfl⟩
  have HXD : Hid (Block w0 w.heap.size [.int .i64 x.id, .slice la x.labels.length lc, .slice ka x.keys.length kc, .slice va x.vals.length vc] 38) := Lib.hid (by rw [← hw0]; exact HX0.out.drew)
  have HZ : Hid (w0.heap.size = w.heap.size + 1) := Lib.hid (by rw [← hw0, HZ0.out]; rfl)
  have HCD : Hid (∀ q : Addr, q.block < W0.heap.size → w0.cell? q = W0.cell? q) := Lib.hid (fun q _ => by rw [← hw0]; rfl)
  have HBD : Hid (Below w.heap.size w w0) := Lib.hid (by rw [← hw0]; exact HBW.out.drew)
  rw [hw0]
  have hHeld : (fun u : World => u.cell? ⟨w.heap.size, 0, none⟩ = some (.int .i64 x.id) ∧ u.cell? ⟨w.heap.size, 1, none⟩ = some (.slice la x.labels.length lc) ∧ u.cell? ⟨w.heap.size, 2, none⟩ = some (.slice ka x.keys.length kc) ∧ u.cell? ⟨w.heap.size, 3, none⟩ = some (.slice va x.vals.length vc)) w0 := by have hX0d := HXD.out; exact ⟨hX0d.cell (i := 0) rfl, hX0d.cell (i := 1) rfl, hX0d.cell (i := 2) rfl, hX0d.cell (i := 3) rfl⟩
  clear hw0
  refine wpAnyJ_take0 (i := 0) (v := ?_) rfl (by kernel_rfl) (by kernel_rfl) (by kernel_rfl) (fun _ _ _ h => h) (Or.inl ⟨by rfl, ?_⟩) ?_
  rotate_left
  focus ((intro w hSw; clear hSw; go_simp); try with_reducible rfl)
  (try simp only [Act.put, List.getElem_toArray, List.getElem_cons_zero, List.getElem_cons_succ, List.setIfInBounds_toArray, List.set_cons_zero, List.set_cons_succ])
  refine wpAnyJ_take0 (i := 1) (v := ?_) rfl (by kernel_rfl) (by kernel_rfl) (by kernel_rfl) (fun _ _ _ h => h) (Or.inl ⟨by rfl, ?_⟩) ?_
  rotate_left
  focus ((intro w hSw; clear hSw; go_simp); try with_reducible rfl)
  (try simp only [Act.put, List.getElem_toArray, List.getElem_cons_zero, List.getElem_cons_succ, List.setIfInBounds_toArray, List.set_cons_zero, List.set_cons_succ])
  refine wpAnyJ_take0 (i := 2) (v := ?_) rfl (by kernel_rfl) (by kernel_rfl) (by kernel_rfl) (fun _ _ _ h => h) (Or.inl ⟨by rfl, ?_⟩) ?_
  rotate_left
  focus ((intro w hSw; clear hSw; go_simp); try with_reducible rfl)
  (try simp only [Act.put, List.getElem_toArray, List.getElem_cons_zero, List.getElem_cons_succ, List.setIfInBounds_toArray, List.set_cons_zero, List.set_cons_succ])
  refine wpAnyJ_take0 (i := 3) (v := ?_) rfl (by kernel_rfl) (by kernel_rfl) (by kernel_rfl) (fun _ _ _ h => h) (Or.inl ⟨by rfl, ?_⟩) ?_
  rotate_left
  focus ((intro w hSw; clear hSw; go_simp); try with_reducible rfl)
  (try simp only [Act.put, List.getElem_toArray, List.getElem_cons_zero, List.getElem_cons_succ, List.setIfInBounds_toArray, List.set_cons_zero, List.set_cons_succ])
  refine wpAnyJ_take (i := 4) (v := ?_) rfl (by kernel_rfl) (by kernel_rfl) (by kernel_rfl) (by kernel_rfl) (fun _ _ _ h => h) (Or.inl ⟨by rfl, ?_⟩) (by assumption) ?_
  rotate_left
  focus ((intro w hSw; (try dsimp only at hSw); go_simp); try with_reducible rfl)
  (try simp only [Act.put, List.getElem_toArray, List.getElem_cons_zero, List.getElem_cons_succ, List.setIfInBounds_toArray, List.set_cons_zero, List.set_cons_succ])
  refine wpAnyJ_ready (rs := [5]) (by kernel_rfl) (by simp) ?_
  refine AllReadyJ.cons rfl (fun KK hKK => ?_) AllReadyJ.nil
  go_simp
  have hZ : w0.heap.size = w.heap.size + 1 := HZ.out
  have hblk := Block.new w0 [.int .i64 x.id, .slice la x.labels.length lc, .slice ka x.keys.length kc, .slice va x.vals.length vc] 38
  have hH2 : (fun u : World => u.cell? ⟨w.heap.size, 0, none⟩ = some (.int .i64 x.id) ∧ u.cell? ⟨w.heap.size, 1, none⟩ = some (.slice la x.labels.length lc) ∧ u.cell? ⟨w.heap.size, 2, none⟩ = some (.slice ka x.keys.length kc) ∧ u.cell? ⟨w.heap.size, 3, none⟩ = some (.slice va x.vals.length vc)) (w0.alloc (.cells #[.int .i64 x.id, .slice la x.labels.length lc, .slice ka x.keys.length kc, .slice va x.vals.length vc] 38)) := by have := HXD.out.alloc (.cells #[.int .i64 x.id, .slice la x.labels.length lc, .slice ka x.keys.length kc, .slice va x.vals.length vc] 38); exact ⟨this.cell (i := 0) rfl, this.cell (i := 1) rfl, this.cell (i := 2) rfl, this.cell (i := 3) rfl⟩
  refine hKK.out _ _ (fun _ _ => hH2) ?_
  clear hKK KK hHeld
  have hHeld := hH2
  clear hH2
  (try simp only [Act.put, List.getElem_toArray, List.getElem_cons_zero, List.getElem_cons_succ, List.setIfInBounds_toArray, List.set_cons_zero, List.set_cons_succ])
  refine wpAnyJ_ready (rs := [6]) (by kernel_rfl) (by simp) ?_
  refine AllReadyJ.cons rfl (fun KK hKK => ?_) AllReadyJ.nil
  refine step_append_grows (by rfl) _ _ 22 (by rfl) 38 iS _ 4 80 Try.underlying22 siS szS s1S s2S rfl (by decide) a i i (cl.take (i * 4)) (by rfl) ?hnone (by rw [List.length_take, HCl.out]; omega) ?holds ⟨w0.heap.size, 0, none⟩ 1 1 [.int .i64 x.id, .slice la x.labels.length lc, .slice ka x.keys.length kc, .slice va x.vals.length vc] (by rfl) (by rfl) (World.news_of_block (cs := #[.int .i64 x.id, .slice la x.labels.length lc, .slice ka x.keys.length kc, .slice va x.vals.length vc]) (t := 38) (fr := (0, 0)) hblk) HX1.out (by omega) (by unfold maxLen; omega) (by omega) ?_
  case hnone => intro e; have := HNO.out e; omega
  case holds =>
    intro b hb j u hu
    rcases (HC.out.takeN (i * 4)) with h0 | ⟨b1, off, h1, h2, h3⟩
    · rw [h0] at hu; simp at hu
    · subst hb; injection h1 with h1; subst h1; rw [addr_add]; have hq := HZ.out; have hzz := HZ0.out; rw [World.cell?_of_block (Below.heap_alloc _ _ _ (by show b1 < _; omega)), HCD.out _ (by show b1 < _; omega)]; exact h3 j u hu
  intro v' w3 hown hgrow
  have hH2 : (fun u : World => u.cell? ⟨w.heap.size, 0, none⟩ = some (.int .i64 x.id) ∧ u.cell? ⟨w.heap.size, 1, none⟩ = some (.slice la x.labels.length lc) ∧ u.cell? ⟨w.heap.size, 2, none⟩ = some (.slice ka x.keys.length kc) ∧ u.cell? ⟨w.heap.size, 3, none⟩ = some (.slice va x.vals.length vc)) w3 := by have hq := HZ.out; have hz9 := HXD.out.lt; have := HXD.out.of_heap (w' := w3) (by rw [hgrow.block w.heap.size (by simp; omega) (fun e => by cases e), Below.heap_alloc _ _ _ hz9]); exact ⟨this.cell (i := 0) rfl, this.cell (i := 1) rfl, this.cell (i := 2) rfl, this.cell (i := 3) rfl⟩
  refine hKK.out _ _ (fun _ _ => hH2) ?_
  clear hKK KK hHeld
  have hHeld := hH2
  clear hH2
  have HOW := Lib.hid hown
  have HGR := Lib.hid hgrow
  have HZL : Hid (w.heap.size ≤ (w0.alloc (.cells #[.int .i64 x.id, .slice la x.labels.length lc, .slice ka x.keys.length kc, .slice va x.vals.length vc] 38)).heap.size) := Lib.hid (by have := HZ.out; simp; omega)
  have HB3 : Hid (Below w.heap.size w w3) := Lib.hid ((HBD.out.alloc (by have := HZ.out; omega) _).grown hgrow HZL.out (fun k e => by cases e))
  have HC3 : Hid (Cells B w3 a cl) := Lib.hid (HC0.out.below HB3.out hB)
  obtain ⟨a3, c3, rfl, hsl3, hcc3⟩ := own_cells hown
  clear hown hgrow hsl3 hcc3
  (try simp only [Act.put, List.getElem_toArray, List.getElem_cons_zero, List.getElem_cons_succ, List.setIfInBounds_toArray, List.set_cons_zero, List.set_cons_succ])
  refine wpAnyJ_take0 (i := 7) (v := ?_) rfl (by kernel_rfl) (by kernel_rfl) (by kernel_rfl) (fun _ _ _ h => h) (Or.inl ⟨by rfl, ?_⟩) ?_
  rotate_left
  focus ((intro w hSw; clear hSw; go_simp); try with_reducible rfl)
  (try simp only [Act.put, List.getElem_toArray, List.getElem_cons_zero, List.getElem_cons_succ, List.setIfInBounds_toArray, List.set_cons_zero, List.set_cons_succ])
  refine wpAnyJ_done (by kernel_rfl) ?_ _
  refine NoPanic.normal ?_
  cases is with
  | false =>
    have e : k = i := HK.out
    rw [e] at hkn
    have g1 : ((i : Nat) : Int) ≤ n := by omega
    have g2 : (0 : Int) ≤ ((i : Nat) : Int) := by omega
    have g3 : ¬ (n < i) := by omega
    have g4 : IntKind.i64.wrap ((i : Int) + 1) = (i : Int) + 1 := IntWalk.i64_in _ (by omega)
    have g5 : i + 1 ≤ 1048577 := by omega
    have HG := Lib.hid (show k = i ∧ k ≤ n from ⟨e, by omega⟩)
    clear e
    by_cases hkc : i = c
    · go_wp2_with (at_builtin; refine wpList_append_rows rfl _ _ 22 rfl _ 38 iS _ 4 80 Try.underlying22 siS szS s1S s2S rfl (by decide) _ (i + 1) (cl.take (i * 4) ++ [.int .i64 x.id, .slice la x.labels.length lc, .slice ka x.keys.length kc, .slice va x.vals.length vc]) rfl HOW.out a 0 0 B [] rfl (fun _ => rfl) (by simp) (Or.inl rfl) (by simp) (by unfold maxLen; omega) (by omega) HGR.out.size ?_)
      intro a5 c5 w5 hown5 hgrow5 hat5
      have HB5 : Hid (Below w.heap.size w w5) := Lib.hid (HB3.out.grown hgrow5 HB3.out.size (fun k e => Nat.le_trans HZL.out (HOW.out.lt k (by cases a3 with | none => cases e | some x => exact e)).1))
      have HFIN : Hid (RowP IsN 38 4 B (setL l i false x) w (.returned (.slice a5 (i + 1 + 0) c5)) w5) := Lib.hid (by
        have hk9 := HG.out
        have hn9 := HN.out
        refine RowP.set (B := B) (cl := cl) (k := k) (by decide) HF.out HX.out HXL.out HX1.out (by omega) HK.out HB5.out HZL.out (ty := 38) (base := (w0.alloc (.cells #[.int .i64 x.id, .slice la x.labels.length lc, .slice ka x.keys.length kc, .slice va x.vals.length vc] 38)).heap.size) ?_
        rw [hk9.1, hn9, show n - i = 0 from by omega, List.drop_of_length_le (by rw [HCl.out]; exact Nat.mul_le_mul_right _ (by omega))]
        simpa [hkc, HZ.out] using hown5)
      clear hown5 hgrow5 hat5
      go_wp2_with fail
      rw [← HQ.out]
      have h9 := HFIN.out
      exact (congrArg (fun z => RowP IsN 38 4 B (setL l _ _ x) w (.returned (.slice a5 z c5)) w5) (by omega)).mp h9
    · go_wp2_with (at_builtin; refine wpList_append_rows rfl _ _ 22 rfl _ 38 iS _ 4 80 Try.underlying22 siS szS s1S s2S rfl (by decide) _ (i + 1) (cl.take (i * 4) ++ [.int .i64 x.id, .slice la x.labels.length lc, .slice ka x.keys.length kc, .slice va x.vals.length vc]) rfl HOW.out (Option.map (fun x => x.add (i * 4)) a) (n - i) (c - i) B (cl.drop (i * 4)) rfl (fun e => by cases a with | none => have := HNO.out rfl; omega | some x => cases e) (by rw [List.length_drop, HCl.out, ← Nat.sub_mul]) (HC3.out.dropN _) (fun u hu => HF.out.one u (List.mem_of_mem_drop hu)) (by unfold maxLen; omega) (by omega) HGR.out.size ?_)
      intro a5 c5 w5 hown5 hgrow5 hat5
      have HB5 : Hid (Below w.heap.size w w5) := Lib.hid (HB3.out.grown hgrow5 HB3.out.size (fun k e => Nat.le_trans HZL.out (HOW.out.lt k (by cases a3 with | none => cases e | some x => exact e)).1))
      have HFIN : Hid (RowP IsN 38 4 B (setL l i false x) w (.returned (.slice a5 (i + 1 + (n - i)) c5)) w5) := Lib.hid (by
        have hk9 := HG.out
        have hn9 := HN.out
        refine RowP.set (B := B) (cl := cl) (k := k) (by decide) HF.out HX.out HXL.out HX1.out (by omega) HK.out HB5.out HZL.out (ty := 38) (base := (w0.alloc (.cells #[.int .i64 x.id, .slice la x.labels.length lc, .slice ka x.keys.length kc, .slice va x.vals.length vc] 38)).heap.size) ?_
        rw [hk9.1, hn9]
        simpa [HZ.out] using hown5)
      clear hown5 hgrow5 hat5
      go_wp2_with fail
      rw [← HQ.out]
      have h9 := HFIN.out
      exact (congrArg (fun z => RowP IsN 38 4 B (setL l _ _ x) w (.returned (.slice a5 z c5)) w5) (by omega)).mp h9
  | true =>
    have e : k = (i + 1) := HK.out
    rw [e] at hkn
    have g1 : (((i + 1) : Nat) : Int) ≤ n := by omega
    have g2 : (0 : Int) ≤ (((i + 1) : Nat) : Int) := by omega
    have g3 : ¬ (n < (i + 1)) := by omega
    have g4 : IntKind.i64.wrap ((i : Int) + 1) = (i : Int) + 1 := IntWalk.i64_in _ (by omega)
    have g5 : i + 1 ≤ 1048577 := by omega
    have HG := Lib.hid (show k = (i + 1) ∧ k ≤ n from ⟨e, by omega⟩)
    clear e
    by_cases hkc : (i + 1) = c
    · go_wp2_with (at_builtin; refine wpList_append_rows rfl _ _ 22 rfl _ 38 iS _ 4 80 Try.underlying22 siS szS s1S s2S rfl (by decide) _ (i + 1) (cl.take (i * 4) ++ [.int .i64 x.id, .slice la x.labels.length lc, .slice ka x.keys.length kc, .slice va x.vals.length vc]) rfl HOW.out a 0 0 B [] rfl (fun _ => rfl) (by simp) (Or.inl rfl) (by simp) (by unfold maxLen; omega) (by omega) HGR.out.size ?_)
      intro a5 c5 w5 hown5 hgrow5 hat5
      have HB5 : Hid (Below w.heap.size w w5) := Lib.hid (HB3.out.grown hgrow5 HB3.out.size (fun k e => Nat.le_trans HZL.out (HOW.out.lt k (by cases a3 with | none => cases e | some x => exact e)).1))
      have HFIN : Hid (RowP IsN 38 4 B (setL l i true x) w (.returned (.slice a5 (i + 1 + 0) c5)) w5) := Lib.hid (by
        have hk9 := HG.out
        have hn9 := HN.out
        refine RowP.set (B := B) (cl := cl) (k := k) (by decide) HF.out HX.out HXL.out HX1.out (by omega) HK.out HB5.out HZL.out (ty := 38) (base := (w0.alloc (.cells #[.int .i64 x.id, .slice la x.labels.length lc, .slice ka x.keys.length kc, .slice va x.vals.length vc] 38)).heap.size) ?_
        rw [hk9.1, hn9, show n - (i + 1) = 0 from by omega, List.drop_of_length_le (by rw [HCl.out]; exact Nat.mul_le_mul_right _ (by omega))]
        simpa [hkc, HZ.out] using hown5)
      clear hown5 hgrow5 hat5
      go_wp2_with fail
      rw [← HQ.out]
      have h9 := HFIN.out
      exact (congrArg (fun z => RowP IsN 38 4 B (setL l _ _ x) w (.returned (.slice a5 z c5)) w5) (by omega)).mp h9
    · go_wp2_with (at_builtin; refine wpList_append_rows rfl _ _ 22 rfl _ 38 iS _ 4 80 Try.underlying22 siS szS s1S s2S rfl (by decide) _ (i + 1) (cl.take (i * 4) ++ [.int .i64 x.id, .slice la x.labels.length lc, .slice ka x.keys.length kc, .slice va x.vals.length vc]) rfl HOW.out (Option.map (fun x => x.add ((i + 1) * 4)) a) (n - (i + 1)) (c - (i + 1)) B (cl.drop ((i + 1) * 4)) rfl (fun e => by cases a with | none => have := HNO.out rfl; omega | some x => cases e) (by rw [List.length_drop, HCl.out, ← Nat.sub_mul]) (HC3.out.dropN _) (fun u hu => HF.out.one u (List.mem_of_mem_drop hu)) (by unfold maxLen; omega) (by omega) HGR.out.size ?_)
      intro a5 c5 w5 hown5 hgrow5 hat5
      have HB5 : Hid (Below w.heap.size w w5) := Lib.hid (HB3.out.grown hgrow5 HB3.out.size (fun k e => Nat.le_trans HZL.out (HOW.out.lt k (by cases a3 with | none => cases e | some x => exact e)).1))
      have HFIN : Hid (RowP IsN 38 4 B (setL l i true x) w (.returned (.slice a5 (i + 1 + (n - (i + 1))) c5)) w5) := Lib.hid (by
        have hk9 := HG.out
        have hn9 := HN.out
        refine RowP.set (B := B) (cl := cl) (k := k) (by decide) HF.out HX.out HXL.out HX1.out (by omega) HK.out HB5.out HZL.out (ty := 38) (base := (w0.alloc (.cells #[.int .i64 x.id, .slice la x.labels.length lc, .slice ka x.keys.length kc, .slice va x.vals.length vc] 38)).heap.size) ?_
        rw [hk9.1, hn9]
        rw [show i + 1 + (n - (i + 1)) = n from by omega]
        simpa [HZ.out] using hown5)
      clear hown5 hgrow5 hat5
      go_wp2_with fail
      rw [← HQ.out]
      have h9 := HFIN.out
      exact (congrArg (fun z => RowP IsN 38 4 B (setL l _ _ x) w (.returned (.slice a5 z c5)) w5) (by omega)).mp h9

set_option maxHeartbeats 8000000 in
theorem setEdge_any (l : List Et) (x : Et) (i : Nat) (is : Bool) (a : Option Addr) (c B : Nat) (cs : List Value) (w : World) (h : RowR (IsE B w) 6 B w a l) (hB : B ≤ w.heap.size) (hs : SlOk a l.length c) (hx : IsE B w cs x) (hi : i ≤ l.length) (his : is = true → i < l.length) (hl : l.length ≤ 1048576) :
    Calls Try.prog 57 #[.slice a l.length c, .int .i64 i, .bool is, .agg cs.toArray] w (RowP IsE 40 6 B (setL l i is x) w) := by
  obtain ⟨cl, hF, hC⟩ := h.flat IsE.one (by decide)
  have HX := Lib.hid hx
  have HX1 := Lib.hid (IsE.one _ _ hx)
  have HXL := Lib.hid hx.len
  obtain ⟨ka, kc, va, vc, rfl⟩ := edge_cells hx
  show Calls Try.prog 57 #[.slice a l.length c, .int .i64 i, .bool is, .agg #[.int .i64 x.id, .int .i64 x.src, .int .i64 x.dst, .string x.ty, .slice ka x.keys.length kc, .slice va x.vals.length vc]] w _
  obtain ⟨iS, siS, szS, s1S, s2S⟩ := info_parts Try.infoEdge
  obtain ⟨W0, hW0⟩ : ∃ W0, w.alloc (.cells #[.int .i64 x.id, .int .i64 x.src, .int .i64 x.dst, .string x.ty, .slice ka x.keys.length kc, .slice va x.vals.length vc] 40) = W0 := ⟨_, rfl⟩
  have hBW : Below w.heap.size w W0 := by rw [← hW0]; exact (Below.refl _ _).alloc (Nat.le_refl _) _
  have hX0 : Block W0 w.heap.size [.int .i64 x.id, .int .i64 x.src, .int .i64 x.dst, .string x.ty, .slice ka x.keys.length kc, .slice va x.vals.length vc] 40 := by rw [← hW0]; exact Block.new w _ _
  have hz0 : w.heap.size + 1 = W0.heap.size := by rw [← hW0]; simp
  obtain ⟨n, hn⟩ : ∃ n, l.length = n := ⟨_, rfl⟩
  have HN := Lib.hid hn
  have HF := Lib.hid hF
  have HC := Lib.hid (hC.below hBW hB)
  have HC0 := Lib.hid hC
  have HX0 := Lib.hid hX0
  have HBW := Lib.hid hBW
  have HZ0 := Lib.hid hz0
  have HW0 := Lib.hid hW0
  have HIS := Lib.hid his
  have hCl : cl.length = n * 6 := by rw [hF.len, hn]
  have HCl := Lib.hid hCl
  obtain ⟨Q, hQ⟩ : ∃ Q, RowP IsE 40 6 B (setL l i is x) w = Q := ⟨_, rfl⟩
  have HQ := Lib.hid hQ
  rw [hQ]
  obtain ⟨⟨hsc, hcm⟩, hnone⟩ := hs
  rw [hn] at hi hl hsc ⊢
  have HNO := Lib.hid hnone
  have hi' : (i : Int) ≤ n := by omega
  have hi0 : (0 : Int) ≤ i := by omega
  have hic : (i : Int) ≤ c := by omega
  have hic' : ¬ (c < i) := by omega
  have hic2 : i ≤ c := by omega
  have hin : ¬ (n < i) := by omega
  clear hX0 hBW hz0 hW0 hF hC hx h his hn hCl hQ hnone
  go_enter Try.func57, Try.ntmps57
  go_wp2_with fail
  rw [HW0.out]
  obtain ⟨k, hk⟩ : ∃ k, k = (if is then i + 1 else i) := ⟨_, rfl⟩
  have hkn : k ≤ n := by rw [hk]; cases is with | true => have := HIS.out rfl; have := HN.out; simp; omega | false => simp; omega
  have HK := Lib.hid hk
  have HKN := Lib.hid hkn
  refine wp_region_noPanic ?_
  refine wp_region_J (S := fun u : World => u.cell? ⟨w.heap.size, 0, none⟩ = some (.int .i64 x.id) ∧ u.cell? ⟨w.heap.size, 1, none⟩ = some (.int .i64 x.src) ∧ u.cell? ⟨w.heap.size, 2, none⟩ = some (.int .i64 x.dst) ∧ u.cell? ⟨w.heap.size, 3, none⟩ = some (.string x.ty) ∧ u.cell? ⟨w.heap.size, 4, none⟩ = some (.slice ka x.keys.length kc) ∧ u.cell? ⟨w.heap.size, 5, none⟩ = some (.slice va x.vals.length vc)) (fun j => j == 7) (by kernel_rfl) ?_
  obtain ⟨w0, hw0⟩ : ∃ u, W0.drew = u := ⟨_, rfl⟩
  have HXD : Hid (Block w0 w.heap.size [.int .i64 x.id, .int .i64 x.src, .int .i64 x.dst, .string x.ty, .slice ka x.keys.length kc, .slice va x.vals.length vc] 40) := Lib.hid (by rw [← hw0]; exact HX0.out.drew)
  have HZ : Hid (w0.heap.size = w.heap.size + 1) := Lib.hid (by rw [← hw0, HZ0.out]; rfl)
  have HCD : Hid (∀ q : Addr, q.block < W0.heap.size → w0.cell? q = W0.cell? q) := Lib.hid (fun q _ => by rw [← hw0]; rfl)
  have HBD : Hid (Below w.heap.size w w0) := Lib.hid (by rw [← hw0]; exact HBW.out.drew)
  rw [hw0]
  have hHeld : (fun u : World => u.cell? ⟨w.heap.size, 0, none⟩ = some (.int .i64 x.id) ∧ u.cell? ⟨w.heap.size, 1, none⟩ = some (.int .i64 x.src) ∧ u.cell? ⟨w.heap.size, 2, none⟩ = some (.int .i64 x.dst) ∧ u.cell? ⟨w.heap.size, 3, none⟩ = some (.string x.ty) ∧ u.cell? ⟨w.heap.size, 4, none⟩ = some (.slice ka x.keys.length kc) ∧ u.cell? ⟨w.heap.size, 5, none⟩ = some (.slice va x.vals.length vc)) w0 := by have hX0d := HXD.out; exact ⟨hX0d.cell (i := 0) rfl, hX0d.cell (i := 1) rfl, hX0d.cell (i := 2) rfl, hX0d.cell (i := 3) rfl, hX0d.cell (i := 4) rfl, hX0d.cell (i := 5) rfl⟩
  clear hw0
  refine wpAnyJ_take0 (i := 0) (v := ?_) rfl (by kernel_rfl) (by kernel_rfl) (by kernel_rfl) (fun _ _ _ h => h) (Or.inl ⟨by rfl, ?_⟩) ?_
  rotate_left
  focus ((intro w hSw; clear hSw; go_simp); try with_reducible rfl)
  (try simp only [Act.put, List.getElem_toArray, List.getElem_cons_zero, List.getElem_cons_succ, List.setIfInBounds_toArray, List.set_cons_zero, List.set_cons_succ])
  refine wpAnyJ_take0 (i := 1) (v := ?_) rfl (by kernel_rfl) (by kernel_rfl) (by kernel_rfl) (fun _ _ _ h => h) (Or.inl ⟨by rfl, ?_⟩) ?_
  rotate_left
  focus ((intro w hSw; clear hSw; go_simp); try with_reducible rfl)
  (try simp only [Act.put, List.getElem_toArray, List.getElem_cons_zero, List.getElem_cons_succ, List.setIfInBounds_toArray, List.set_cons_zero, List.set_cons_succ])
  refine wpAnyJ_take0 (i := 2) (v := ?_) rfl (by kernel_rfl) (by kernel_rfl) (by kernel_rfl) (fun _ _ _ h => h) (Or.inl ⟨by rfl, ?_⟩) ?_
  rotate_left
  focus ((intro w hSw; clear hSw; go_simp); try with_reducible rfl)
  (try simp only [Act.put, List.getElem_toArray, List.getElem_cons_zero, List.getElem_cons_succ, List.setIfInBounds_toArray, List.set_cons_zero, List.set_cons_succ])
  refine wpAnyJ_take0 (i := 3) (v := ?_) rfl (by kernel_rfl) (by kernel_rfl) (by kernel_rfl) (fun _ _ _ h => h) (Or.inl ⟨by rfl, ?_⟩) ?_
  rotate_left
  focus ((intro w hSw; clear hSw; go_simp); try with_reducible rfl)
  (try simp only [Act.put, List.getElem_toArray, List.getElem_cons_zero, List.getElem_cons_succ, List.setIfInBounds_toArray, List.set_cons_zero, List.set_cons_succ])
  refine wpAnyJ_take (i := 4) (v := ?_) rfl (by kernel_rfl) (by kernel_rfl) (by kernel_rfl) (by kernel_rfl) (fun _ _ _ h => h) (Or.inl ⟨by rfl, ?_⟩) (by assumption) ?_
  rotate_left
  focus ((intro w hSw; (try dsimp only at hSw); go_simp); try with_reducible rfl)
  (try simp only [Act.put, List.getElem_toArray, List.getElem_cons_zero, List.getElem_cons_succ, List.setIfInBounds_toArray, List.set_cons_zero, List.set_cons_succ])
  refine wpAnyJ_ready (rs := [5]) (by kernel_rfl) (by simp) ?_
  refine AllReadyJ.cons rfl (fun KK hKK => ?_) AllReadyJ.nil
  go_simp
  have hZ : w0.heap.size = w.heap.size + 1 := HZ.out
  have hblk := Block.new w0 [.int .i64 x.id, .int .i64 x.src, .int .i64 x.dst, .string x.ty, .slice ka x.keys.length kc, .slice va x.vals.length vc] 40
  have hH2 : (fun u : World => u.cell? ⟨w.heap.size, 0, none⟩ = some (.int .i64 x.id) ∧ u.cell? ⟨w.heap.size, 1, none⟩ = some (.int .i64 x.src) ∧ u.cell? ⟨w.heap.size, 2, none⟩ = some (.int .i64 x.dst) ∧ u.cell? ⟨w.heap.size, 3, none⟩ = some (.string x.ty) ∧ u.cell? ⟨w.heap.size, 4, none⟩ = some (.slice ka x.keys.length kc) ∧ u.cell? ⟨w.heap.size, 5, none⟩ = some (.slice va x.vals.length vc)) (w0.alloc (.cells #[.int .i64 x.id, .int .i64 x.src, .int .i64 x.dst, .string x.ty, .slice ka x.keys.length kc, .slice va x.vals.length vc] 40)) := by have := HXD.out.alloc (.cells #[.int .i64 x.id, .int .i64 x.src, .int .i64 x.dst, .string x.ty, .slice ka x.keys.length kc, .slice va x.vals.length vc] 40); exact ⟨this.cell (i := 0) rfl, this.cell (i := 1) rfl, this.cell (i := 2) rfl, this.cell (i := 3) rfl, this.cell (i := 4) rfl, this.cell (i := 5) rfl⟩
  refine hKK.out _ _ (fun _ _ => hH2) ?_
  clear hKK KK hHeld
  have hHeld := hH2
  clear hH2
  (try simp only [Act.put, List.getElem_toArray, List.getElem_cons_zero, List.getElem_cons_succ, List.setIfInBounds_toArray, List.set_cons_zero, List.set_cons_succ])
  refine wpAnyJ_ready (rs := [6]) (by kernel_rfl) (by simp) ?_
  refine AllReadyJ.cons rfl (fun KK hKK => ?_) AllReadyJ.nil
  refine step_append_grows (by rfl) _ _ 23 (by rfl) 40 iS _ 6 88 Try.underlying23 siS szS s1S s2S rfl (by decide) a i i (cl.take (i * 6)) (by rfl) ?hnone (by rw [List.length_take, HCl.out]; omega) ?holds ⟨w0.heap.size, 0, none⟩ 1 1 [.int .i64 x.id, .int .i64 x.src, .int .i64 x.dst, .string x.ty, .slice ka x.keys.length kc, .slice va x.vals.length vc] (by rfl) (by rfl) (World.news_of_block (cs := #[.int .i64 x.id, .int .i64 x.src, .int .i64 x.dst, .string x.ty, .slice ka x.keys.length kc, .slice va x.vals.length vc]) (t := 40) (fr := (0, 0)) hblk) HX1.out (by omega) (by unfold maxLen; omega) (by omega) ?_
  case hnone => intro e; have := HNO.out e; omega
  case holds =>
    intro b hb j u hu
    rcases (HC.out.takeN (i * 6)) with h0 | ⟨b1, off, h1, h2, h3⟩
    · rw [h0] at hu; simp at hu
    · subst hb; injection h1 with h1; subst h1; rw [addr_add]; have hq := HZ.out; have hzz := HZ0.out; rw [World.cell?_of_block (Below.heap_alloc _ _ _ (by show b1 < _; omega)), HCD.out _ (by show b1 < _; omega)]; exact h3 j u hu
  intro v' w3 hown hgrow
  have hH2 : (fun u : World => u.cell? ⟨w.heap.size, 0, none⟩ = some (.int .i64 x.id) ∧ u.cell? ⟨w.heap.size, 1, none⟩ = some (.int .i64 x.src) ∧ u.cell? ⟨w.heap.size, 2, none⟩ = some (.int .i64 x.dst) ∧ u.cell? ⟨w.heap.size, 3, none⟩ = some (.string x.ty) ∧ u.cell? ⟨w.heap.size, 4, none⟩ = some (.slice ka x.keys.length kc) ∧ u.cell? ⟨w.heap.size, 5, none⟩ = some (.slice va x.vals.length vc)) w3 := by have hq := HZ.out; have hz9 := HXD.out.lt; have := HXD.out.of_heap (w' := w3) (by rw [hgrow.block w.heap.size (by simp; omega) (fun e => by cases e), Below.heap_alloc _ _ _ hz9]); exact ⟨this.cell (i := 0) rfl, this.cell (i := 1) rfl, this.cell (i := 2) rfl, this.cell (i := 3) rfl, this.cell (i := 4) rfl, this.cell (i := 5) rfl⟩
  refine hKK.out _ _ (fun _ _ => hH2) ?_
  clear hKK KK hHeld
  have hHeld := hH2
  clear hH2
  have HOW := Lib.hid hown
  have HGR := Lib.hid hgrow
  have HZL : Hid (w.heap.size ≤ (w0.alloc (.cells #[.int .i64 x.id, .int .i64 x.src, .int .i64 x.dst, .string x.ty, .slice ka x.keys.length kc, .slice va x.vals.length vc] 40)).heap.size) := Lib.hid (by have := HZ.out; simp; omega)
  have HB3 : Hid (Below w.heap.size w w3) := Lib.hid ((HBD.out.alloc (by have := HZ.out; omega) _).grown hgrow HZL.out (fun k e => by cases e))
  have HC3 : Hid (Cells B w3 a cl) := Lib.hid (HC0.out.below HB3.out hB)
  obtain ⟨a3, c3, rfl, hsl3, hcc3⟩ := own_cells hown
  clear hown hgrow hsl3 hcc3
  (try simp only [Act.put, List.getElem_toArray, List.getElem_cons_zero, List.getElem_cons_succ, List.setIfInBounds_toArray, List.set_cons_zero, List.set_cons_succ])
  refine wpAnyJ_take0 (i := 7) (v := ?_) rfl (by kernel_rfl) (by kernel_rfl) (by kernel_rfl) (fun _ _ _ h => h) (Or.inl ⟨by rfl, ?_⟩) ?_
  rotate_left
  focus ((intro w hSw; clear hSw; go_simp); try with_reducible rfl)
  (try simp only [Act.put, List.getElem_toArray, List.getElem_cons_zero, List.getElem_cons_succ, List.setIfInBounds_toArray, List.set_cons_zero, List.set_cons_succ])
  refine wpAnyJ_done (by kernel_rfl) ?_ _
  refine NoPanic.normal ?_
  cases is with
  | false =>
    have e : k = i := HK.out
    rw [e] at hkn
    have g1 : ((i : Nat) : Int) ≤ n := by omega
    have g2 : (0 : Int) ≤ ((i : Nat) : Int) := by omega
    have g3 : ¬ (n < i) := by omega
    have g4 : IntKind.i64.wrap ((i : Int) + 1) = (i : Int) + 1 := IntWalk.i64_in _ (by omega)
    have g5 : i + 1 ≤ 1048577 := by omega
    have HG := Lib.hid (show k = i ∧ k ≤ n from ⟨e, by omega⟩)
    clear e
    by_cases hkc : i = c
    · go_wp2_with (at_builtin; refine wpList_append_rows rfl _ _ 23 rfl _ 40 iS _ 6 88 Try.underlying23 siS szS s1S s2S rfl (by decide) _ (i + 1) (cl.take (i * 6) ++ [.int .i64 x.id, .int .i64 x.src, .int .i64 x.dst, .string x.ty, .slice ka x.keys.length kc, .slice va x.vals.length vc]) rfl HOW.out a 0 0 B [] rfl (fun _ => rfl) (by simp) (Or.inl rfl) (by simp) (by unfold maxLen; omega) (by omega) HGR.out.size ?_)
      intro a5 c5 w5 hown5 hgrow5 hat5
      have HB5 : Hid (Below w.heap.size w w5) := Lib.hid (HB3.out.grown hgrow5 HB3.out.size (fun k e => Nat.le_trans HZL.out (HOW.out.lt k (by cases a3 with | none => cases e | some x => exact e)).1))
      have HFIN : Hid (RowP IsE 40 6 B (setL l i false x) w (.returned (.slice a5 (i + 1 + 0) c5)) w5) := Lib.hid (by
        have hk9 := HG.out
        have hn9 := HN.out
        refine RowP.set (B := B) (cl := cl) (k := k) (by decide) HF.out HX.out HXL.out HX1.out (by omega) HK.out HB5.out HZL.out (ty := 40) (base := (w0.alloc (.cells #[.int .i64 x.id, .int .i64 x.src, .int .i64 x.dst, .string x.ty, .slice ka x.keys.length kc, .slice va x.vals.length vc] 40)).heap.size) ?_
        rw [hk9.1, hn9, show n - i = 0 from by omega, List.drop_of_length_le (by rw [HCl.out]; exact Nat.mul_le_mul_right _ (by omega))]
        simpa [hkc, HZ.out] using hown5)
      clear hown5 hgrow5 hat5
      go_wp2_with fail
      rw [← HQ.out]
      have h9 := HFIN.out
      exact (congrArg (fun z => RowP IsE 40 6 B (setL l _ _ x) w (.returned (.slice a5 z c5)) w5) (by omega)).mp h9
    · go_wp2_with (at_builtin; refine wpList_append_rows rfl _ _ 23 rfl _ 40 iS _ 6 88 Try.underlying23 siS szS s1S s2S rfl (by decide) _ (i + 1) (cl.take (i * 6) ++ [.int .i64 x.id, .int .i64 x.src, .int .i64 x.dst, .string x.ty, .slice ka x.keys.length kc, .slice va x.vals.length vc]) rfl HOW.out (Option.map (fun x => x.add (i * 6)) a) (n - i) (c - i) B (cl.drop (i * 6)) rfl (fun e => by cases a with | none => have := HNO.out rfl; omega | some x => cases e) (by rw [List.length_drop, HCl.out, ← Nat.sub_mul]) (HC3.out.dropN _) (fun u hu => HF.out.one u (List.mem_of_mem_drop hu)) (by unfold maxLen; omega) (by omega) HGR.out.size ?_)
      intro a5 c5 w5 hown5 hgrow5 hat5
      have HB5 : Hid (Below w.heap.size w w5) := Lib.hid (HB3.out.grown hgrow5 HB3.out.size (fun k e => Nat.le_trans HZL.out (HOW.out.lt k (by cases a3 with | none => cases e | some x => exact e)).1))
      have HFIN : Hid (RowP IsE 40 6 B (setL l i false x) w (.returned (.slice a5 (i + 1 + (n - i)) c5)) w5) := Lib.hid (by
        have hk9 := HG.out
        have hn9 := HN.out
        refine RowP.set (B := B) (cl := cl) (k := k) (by decide) HF.out HX.out HXL.out HX1.out (by omega) HK.out HB5.out HZL.out (ty := 40) (base := (w0.alloc (.cells #[.int .i64 x.id, .int .i64 x.src, .int .i64 x.dst, .string x.ty, .slice ka x.keys.length kc, .slice va x.vals.length vc] 40)).heap.size) ?_
        rw [hk9.1, hn9]
        simpa [HZ.out] using hown5)
      clear hown5 hgrow5 hat5
      go_wp2_with fail
      rw [← HQ.out]
      have h9 := HFIN.out
      exact (congrArg (fun z => RowP IsE 40 6 B (setL l _ _ x) w (.returned (.slice a5 z c5)) w5) (by omega)).mp h9
  | true =>
    have e : k = (i + 1) := HK.out
    rw [e] at hkn
    have g1 : (((i + 1) : Nat) : Int) ≤ n := by omega
    have g2 : (0 : Int) ≤ (((i + 1) : Nat) : Int) := by omega
    have g3 : ¬ (n < (i + 1)) := by omega
    have g4 : IntKind.i64.wrap ((i : Int) + 1) = (i : Int) + 1 := IntWalk.i64_in _ (by omega)
    have g5 : i + 1 ≤ 1048577 := by omega
    have HG := Lib.hid (show k = (i + 1) ∧ k ≤ n from ⟨e, by omega⟩)
    clear e
    by_cases hkc : (i + 1) = c
    · go_wp2_with (at_builtin; refine wpList_append_rows rfl _ _ 23 rfl _ 40 iS _ 6 88 Try.underlying23 siS szS s1S s2S rfl (by decide) _ (i + 1) (cl.take (i * 6) ++ [.int .i64 x.id, .int .i64 x.src, .int .i64 x.dst, .string x.ty, .slice ka x.keys.length kc, .slice va x.vals.length vc]) rfl HOW.out a 0 0 B [] rfl (fun _ => rfl) (by simp) (Or.inl rfl) (by simp) (by unfold maxLen; omega) (by omega) HGR.out.size ?_)
      intro a5 c5 w5 hown5 hgrow5 hat5
      have HB5 : Hid (Below w.heap.size w w5) := Lib.hid (HB3.out.grown hgrow5 HB3.out.size (fun k e => Nat.le_trans HZL.out (HOW.out.lt k (by cases a3 with | none => cases e | some x => exact e)).1))
      have HFIN : Hid (RowP IsE 40 6 B (setL l i true x) w (.returned (.slice a5 (i + 1 + 0) c5)) w5) := Lib.hid (by
        have hk9 := HG.out
        have hn9 := HN.out
        refine RowP.set (B := B) (cl := cl) (k := k) (by decide) HF.out HX.out HXL.out HX1.out (by omega) HK.out HB5.out HZL.out (ty := 40) (base := (w0.alloc (.cells #[.int .i64 x.id, .int .i64 x.src, .int .i64 x.dst, .string x.ty, .slice ka x.keys.length kc, .slice va x.vals.length vc] 40)).heap.size) ?_
        rw [hk9.1, hn9, show n - (i + 1) = 0 from by omega, List.drop_of_length_le (by rw [HCl.out]; exact Nat.mul_le_mul_right _ (by omega))]
        simpa [hkc, HZ.out] using hown5)
      clear hown5 hgrow5 hat5
      go_wp2_with fail
      rw [← HQ.out]
      have h9 := HFIN.out
      exact (congrArg (fun z => RowP IsE 40 6 B (setL l _ _ x) w (.returned (.slice a5 z c5)) w5) (by omega)).mp h9
    · go_wp2_with (at_builtin; refine wpList_append_rows rfl _ _ 23 rfl _ 40 iS _ 6 88 Try.underlying23 siS szS s1S s2S rfl (by decide) _ (i + 1) (cl.take (i * 6) ++ [.int .i64 x.id, .int .i64 x.src, .int .i64 x.dst, .string x.ty, .slice ka x.keys.length kc, .slice va x.vals.length vc]) rfl HOW.out (Option.map (fun x => x.add ((i + 1) * 6)) a) (n - (i + 1)) (c - (i + 1)) B (cl.drop ((i + 1) * 6)) rfl (fun e => by cases a with | none => have := HNO.out rfl; omega | some x => cases e) (by rw [List.length_drop, HCl.out, ← Nat.sub_mul]) (HC3.out.dropN _) (fun u hu => HF.out.one u (List.mem_of_mem_drop hu)) (by unfold maxLen; omega) (by omega) HGR.out.size ?_)
      intro a5 c5 w5 hown5 hgrow5 hat5
      have HB5 : Hid (Below w.heap.size w w5) := Lib.hid (HB3.out.grown hgrow5 HB3.out.size (fun k e => Nat.le_trans HZL.out (HOW.out.lt k (by cases a3 with | none => cases e | some x => exact e)).1))
      have HFIN : Hid (RowP IsE 40 6 B (setL l i true x) w (.returned (.slice a5 (i + 1 + (n - (i + 1))) c5)) w5) := Lib.hid (by
        have hk9 := HG.out
        have hn9 := HN.out
        refine RowP.set (B := B) (cl := cl) (k := k) (by decide) HF.out HX.out HXL.out HX1.out (by omega) HK.out HB5.out HZL.out (ty := 40) (base := (w0.alloc (.cells #[.int .i64 x.id, .int .i64 x.src, .int .i64 x.dst, .string x.ty, .slice ka x.keys.length kc, .slice va x.vals.length vc] 40)).heap.size) ?_
        rw [hk9.1, hn9]
        rw [show i + 1 + (n - (i + 1)) = n from by omega]
        simpa [HZ.out] using hown5)
      clear hown5 hgrow5 hat5
      go_wp2_with fail
      rw [← HQ.out]
      have h9 := HFIN.out
      exact (congrArg (fun z => RowP IsE 40 6 B (setL l _ _ x) w (.returned (.slice a5 z c5)) w5) (by omega)).mp h9
end Go.Proofs.Ytoakloicjlfaaaa

/- Layer 14: what the changes of a graph come to, in plain words; a function's own blocks. Conditions: none. -/
namespace Go.Proofs.Ytoakloicjlfaaaa
open Go.RowKit
set_option linter.unusedSimpArgs false
set_option linter.unusedVariables false

def noG : Gt := ⟨[], []⟩
def idsN (g : Gt) : List Int := g.nodes.map (·.id)
def idsE (g : Gt) : List Int := g.edges.map (·.id)
def putG (g : Gt) (n : Nt) : Int × Gt :=
  if mayN n = false then (20, noG)
  else if hasI (idsN g) n.id = false ∧ 4096 ≤ g.nodes.length then (8, noG)
  else (0, ⟨setL g.nodes (posI (idsN g) n.id) (hasI (idsN g) n.id) n, g.edges⟩)
/-- The edge that stands where another one is to stand goes another way. -/
def otherE (g : Gt) (e : Et) : Bool := match g.edges[posI (idsE g) e.id]? with
  | some x => !(decide (x.src = e.src) && (decide (x.dst = e.dst) && decide (x.ty = e.ty)))
  | none => false
def joinG (g : Gt) (e : Et) : Int × Gt :=
  if mayE e = false then (20, noG)
  else if hasI (idsN g) e.src = false ∨ hasI (idsN g) e.dst = false then (23, noG)
  else if hasI (idsE g) e.id = true ∧ otherE g e = true then (20, noG)
  else if hasI (idsE g) e.id = false ∧ 4096 ≤ g.edges.length then (8, noG)
  else (0, ⟨g.nodes, setL g.edges (posI (idsE g) e.id) (hasI (idsE g) e.id) e⟩)
/-- An edge at a node, some way, of a type. -/
def atE (id dir : Int) (ty : ByteArray) (e : Et) : Bool := ((decide (dir ≠ 1) && decide (e.src = id)) || (decide (dir ≠ 0) && decide (e.dst = id))) && (decide (ty = ⟨#[]⟩) || decide (e.ty = ty))
def aroundG (g : Gt) (id dir : Int) (ty : ByteArray) : List Et := g.edges.filter (atE id dir ty)
def dropG (g : Gt) (id : Int) : Int × Gt :=
  if hasI (idsN g) id = false then (23, noG)
  else if (aroundG g id 2 ⟨#[]⟩).isEmpty = false then (5, noG)
  else (0, ⟨g.nodes.take (posI (idsN g) id) ++ g.nodes.drop (posI (idsN g) id + 1), g.edges⟩)
def cutG (g : Gt) (id : Int) : Int × Gt :=
  if hasI (idsE g) id = false then (23, noG)
  else (0, ⟨g.nodes, g.edges.take (posI (idsE g) id) ++ g.edges.drop (posI (idsE g) id + 1)⟩)
/-- What comes is a code and a graph in new memory. -/
def ResP (r : Int × Gt) (w : World) (e : Ending) (w' : World) : Prop :=
  ∃ cs bs, e = .returned (.tuple #[.agg cs.toArray, .int .i64 r.1]) ∧ Below w.heap.size w w' ∧ IsGO w' cs r.2 bs ∧ bs.Nodup ∧ ∀ b ∈ bs, w.heap.size ≤ b ∧ b < w'.heap.size
/-- What comes is a code and a graph that can be read. -/
def ResR (r : Int × Gt) (w : World) (e : Ending) (w' : World) : Prop :=
  ∃ cs, e = .returned (.tuple #[.agg cs.toArray, .int .i64 r.1]) ∧ Below w.heap.size w w' ∧ IsG w'.heap.size w' cs r.2
theorem ResP.err {w w' : World} (c : Int) (hb : Below w.heap.size w w') : ResP (c, noG) w (.returned (.tuple #[.agg #[.slice none 0 0, .slice none 0 0], .int .i64 c])) w' :=
  ⟨[.slice none 0 0, .slice none 0 0], [], rfl, hb, ⟨none, 0, none, 0, [], [], rfl, ⟨⟨⟨Nat.le_refl _, by omega⟩, fun _ => rfl⟩, ⟨⟨Nat.le_refl _, by omega⟩, fun _ => rfl⟩⟩, rfl, .inl ⟨rfl, rfl⟩, .inl ⟨rfl, rfl⟩⟩, List.nodup_nil, by simp⟩
theorem ResP.res {r : Int × Gt} {w w' : World} {e : Ending} (h : ResP r w e w') : ResR r w e w' := by
  obtain ⟨cs, bs, h1, h2, h3, h4, h5⟩ := h
  exact ⟨cs, h1, h2, h3.isG (fun b hb => (h5 b hb).2)⟩
/-- A call's own blocks, behind all that was there. -/
structure Bx (w : World) (L : List (List Value × TypeId)) (W : World) : Prop where
  bel : Below w.heap.size w W
  len : w.heap.size + L.length ≤ W.heap.size
  blk : ∀ (i : Nat) c t, L[i]? = some (c, t) → Block W (w.heap.size + i) c t
theorem Bx.nil (w : World) : Bx w [] w := ⟨Below.refl _ _, Nat.le_refl _, fun i c t h => by simp at h⟩
theorem Bx.below {w W W' : World} {L : List (List Value × TypeId)} (h : Bx w L W) (hb : Below W.heap.size W W') : Bx w L W' :=
  ⟨h.bel.trans (hb.mono h.bel.size), Nat.le_trans h.len hb.size, fun i c t hi => (h.blk i c t hi).below hb (h.blk i c t hi).lt⟩
theorem Bx.put {w W : World} {L : List (List Value × TypeId)} {c : List Value} {t : TypeId} (h : Bx w L W) (i k : Nat) (hi : L[i]? = some (c, t)) (v : Value) : Bx w (L.set i (c.set k v, t)) (W.setCell ⟨w.heap.size + i, k, none⟩ v) := by
  refine ⟨h.bel.setCell (by show w.heap.size ≤ w.heap.size + i; omega) v, by simp [World.setCell]; exact h.len, fun j c' t' hj => ?_⟩
  by_cases hij : i = j
  · subst hij
    have hlt : i < L.length := (List.getElem?_eq_some_iff.1 hi).1
    rw [List.getElem?_set_self hlt] at hj
    cases hj
    exact (h.blk i c t hi).set k v
  · rw [List.getElem?_set_ne hij] at hj
    exact (h.blk j c' t' hj).set_other (by simp; omega) v
theorem Bx.cell {w W : World} {L : List (List Value × TypeId)} (h : Bx w L W) (i k : Nat) {c : List Value} {t : TypeId} {v : Value} (hi : L[i]? = some (c, t)) (hk : c[k]? = some v) : W.cell? ⟨w.heap.size + i, k, none⟩ = some v := (h.blk i c t hi).cell hk
theorem Bx.free {w W : World} {L : List (List Value × TypeId)} (h : Bx w L W) (i k : Nat) {c : List Value} {t : TypeId} (hi : L[i]? = some (c, t)) : W.frozen? ⟨w.heap.size + i, k, none⟩ = false := (h.blk i c t hi).free k
theorem Bx.alloc {w W : World} {L : List (List Value × TypeId)} (h : Bx w L W) (he : W.heap.size = w.heap.size + L.length) (c : List Value) (t : TypeId) : Bx w (L ++ [(c, t)]) (W.alloc (.cells c.toArray t)) := by
  refine ⟨h.bel.alloc (by omega) _, by simp; omega, fun i c' t' hi => ?_⟩
  by_cases hl : i < L.length
  · rw [List.getElem?_append_left hl] at hi
    exact (h.blk i c' t' hi).alloc _
  · have e : i = L.length := by have := (List.getElem?_eq_some_iff.1 hi).1; simp at this; omega
    subst e
    simp at hi
    obtain ⟨rfl, rfl⟩ := hi
    rw [← he]
    exact Block.new W c t
theorem Bx.zero {w W : World} {L : List (List Value × TypeId)} (h : Bx w L W) {c : List Value} {t : TypeId} (hi : L[0]? = some (c, t)) : Block W w.heap.size c t := h.blk 0 c t hi
theorem own_frame {w w' : World} {base : Nat} {ty : TypeId} {size n : Nat} {v : Value} {cl : List Value} (h : w.ownsRow base ty size v n cl) (hb : ∀ q, base ≤ q → q < w.heap.size → w'.heap[q]? = w.heap[q]?) : w'.ownsRow base ty size v n cl :=
  own_of_heap h fun k e => hb k (h.lt k e).1 (h.lt k e).2
/-- A row that came from another call, read later. -/
theorem RowP.row {α : Type} {R : Nat → World → List Value → α → Prop} {ty : TypeId} {size B : Nat} {l : List α} {w w' : World} {a : Option Addr} {c : Nat} {cl : List Value} (hs : 0 < size) (hR : ∀ cs x, R B w cs x → R w'.heap.size w' cs x) (hf : FlatR (R B w) size cl l) (hown : w'.ownsRow w.heap.size ty size (.slice a l.length c) l.length cl) :
    SlOk a l.length c ∧ RowR (R w'.heap.size w') size w'.heap.size w' a l := by
  obtain ⟨a', c', e, h1, h2⟩ := own_cells hown
  injection e with e1 e2 e3
  subst e1 e3
  exact ⟨h1, (hf.mono hR).row hs h2⟩
end Go.Proofs.Ytoakloicjlfaaaa

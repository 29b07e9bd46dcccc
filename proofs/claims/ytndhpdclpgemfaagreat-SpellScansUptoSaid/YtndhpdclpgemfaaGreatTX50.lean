/- Layer 11: the law SpellScans as a call. Conditions: what is read is small. -/
import Derived.Test.YtndhpdclpgemfaaGreatTX49
import Derived.Test.YtndhpdclpgemfaaGreatV24
import Derived.Test.YtndhpdclpgemfaaGreatV26
import Derived.Test.YtndhpdclpgemfaaGreatV20
import Derived.Test.YtndhpdclpgemfaaGreatV23
namespace Go.Proofs.YtndhpdclpgemfaaGreat
open Go.RowKit Go.Shelf
set_option linter.unusedSimpArgs false
set_option linter.unusedVariables false
set_option maxRecDepth 100000

theorem wh_step {L : List UInt8} (h : Wh L) (hne : L ≠ []) : 1 ≤ sg L ∧ 32 ≤ nb L 0 ∧ Wh (L.drop (sg L)) := by
  cases h with
  | nil => exact absurd rfl hne
  | sign x r hx hs h32 h =>
    have n0 : nb (x ++ r) 0 = nb x 0 := by
      unfold nb
      rw [List.getElem?_append_left (by omega)]
    rw [hs r, n0, List.drop_left]
    exact ⟨by omega, h32, h⟩
/-- What Print answers: a text that scans, or none. -/
theorem print_two (s : Smt) : (printT s = ⟨#[]⟩ ∧ (printE s != 0) = true) ∨ (rightB s = true ∧ printE s = 0 ∧ printT s = strOf (stmtX s.clauses) ∧ ∃ l, scanL (stmtX s.clauses) = .ok l) := by
  unfold printE printT
  cases hr : rightB s with
  | false => exact .inl ⟨rfl, rfl⟩
  | true =>
    simp only [if_true]
    cases hs : scanL (stmtX s.clauses) with
    | ok l => exact .inr ⟨trivial, rfl, rfl, l, rfl⟩
    | bad q x =>
      have hx : (x == 0) = false := by simp; exact (scanL_bad hs).2
      refine .inl ?_
      simp only [scanOk, hx]
      exact ⟨rfl, rfl⟩
set_option maxHeartbeats 64000000 in
theorem spellScans_any (s : Smt) (cs : List Value) (w : World) (hX : IsSm w.heap.size w cs s) (hML : ML w) (hw : wtSm s ≤ 1048576) :
    Calls Tryz.prog 5 #[.agg cs.toArray] w fun e w' => e = .returned (.bool true) ∧ Below w.heap.size w w' := by
  have hX0 := hX
  obtain ⟨se, hse⟩ : ∃ x, s = x := ⟨_, rfl⟩
  rw [hse] at hX0 hw
  obtain ⟨l⟩ := s
  obtain ⟨a, cc, rfl, hsl, hR⟩ := hX
  simp only at hsl hR hX0 ⊢
  obtain ⟨n, hn⟩ : ∃ n, l.length = n := ⟨_, rfl⟩
  rw [hn] at hX0 ⊢
  obtain ⟨W0, u0, hW0, hu0, hsz, hbe, hce⟩ := box_ext w [.slice a n cc] 24
  have e0 := fun u => hce u 0 _ rfl
  have HML : Hid (∀ u : Ext (w.heap.size + 1) W0, ML u.w) := Lib.hid (fun u => hML.below (hbe u))
  have HLG : Hid (∀ u : Ext (w.heap.size + 1) W0, Calls Tryz.prog 8 #[.agg #[.slice a n cc]] u.w fun e w' => SomeBool e ∧ ∃ u' : Ext (w.heap.size + 1) W0, w' = u'.w) := Lib.hid (fun u => (stmtLarge_any se _ w.heap.size u.w (hX0.below (hbe u) (Nat.le_refl _)) (hbe u).size (by omega)).mono fun e w' ⟨h1, h2⟩ => ⟨h1, ⟨w', u.below.trans (h2.mono (Nat.le_trans hsz u.below.size))⟩, rfl⟩)
  have HWX := Lib.hid (fun u : Ext (w.heap.size + 1) W0 => ext_call u hsz (works_any (groups_any wCl) u.w (HML.out u)))
  have HPR := Lib.hid (fun u : Ext (w.heap.size + 1) W0 => ext_call u hsz (pprint_any se (fun c _ => groups_any c) _ w.heap.size u.w (hX0.below (hbe u) (Nat.le_refl _)) (hbe u).size (HML.out u) hw))
  have hxl := stmtX_len se hw
  have HBE := Lib.hid hbe
  have HSZ := Lib.hid hsz
  have HW0 := Lib.hid hW0
  have HU0 := Lib.hid hu0
  clear hR hn hbe hsz hW0 hu0 hce hw hsl hX0 hse
  have h2 := print_two se
  obtain ⟨PT, hPT⟩ : ∃ x, printT se = x := ⟨_, rfl⟩
  obtain ⟨PE, hPE⟩ : ∃ x, printE se = x := ⟨_, rfl⟩
  rw [hPT, hPE] at HPR h2
  clear hPT hPE
  rcases h2 with h2 | h2
  · obtain ⟨h2, h3⟩ := h2
    subst h2
    go_enter Tryz.func5, Tryz.ntmps5
    go_upto_region 1 with fail
    rw [HW0.out, HU0.out]
    go_wp2_with fail
    refine (HLG.out _).mono ?_
    rintro e w2 ⟨⟨b, rfl⟩, u2, rfl⟩
    cases b with
    | true =>
      go_wp2_with fail
      refine (HWX.out _).mono ?_
      rintro e w3 ⟨rfl, u3, rfl⟩
      go_wp2_with fail
      go_ret
      exact ⟨by rfl, HBE.out _⟩
    | false =>
      go_wp2_with fail
      refine (HPR.out _).mono ?_
      rintro e w3 ⟨rfl, u3, rfl⟩
      go_wp2_with fail
      refine (HWX.out _).mono ?_
      rintro e w4 ⟨rfl, u4, rfl⟩
      go_wp2_with fail
      go_ret
      exact ⟨by rfl, HBE.out _⟩
  · obtain ⟨h2, h3, h4, toks, h5⟩ := h2
    subst h3 h4
    have hwh := wh_stmt h2
    obtain ⟨W, r, hW, hWr⟩ := head_word h2
    have hsc := h5
    rw [hWr] at hsc
    obtain ⟨hl2, hl0⟩ := scan_head hW hsc
    obtain ⟨X, hX⟩ : ∃ X, stmtX se.clauses = X := ⟨_, rfl⟩
    rw [hX] at h5 hxl hwh HPR
    clear hX hWr hsc h2
    have HSC := Lib.hid (fun u : Ext (w.heap.size + 1) W0 => scan_any (strOf X) _ u.w (by rw [strOf_size]; omega) (HML.out u).2.choose_spec (HML.out u).1)
    rw [strOf_data] at HSC
    rw [h5] at HSC
    have hts : (strOf X).size = X.length := strOf_size X
    obtain ⟨T, hT⟩ : ∃ T, strOf X = T := ⟨_, rfl⟩
    have HTX : Hid (T.data.toList = X) := Lib.hid (by rw [← hT]; exact strOf_data X)
    rw [hT] at HSC HPR hts
    have hlen : toks.length ≤ 4097 := scanL_len h5
    obtain ⟨m, hm⟩ : ∃ m, toks.length = m := ⟨_, rfl⟩
    rw [hm] at hl2 hlen
    have HL0 := Lib.hid hl0
    have HM := Lib.hid hm
    have HWH := Lib.hid hwh
    have htl : T.size ≤ 549755813888 := by omega
    have HTS := Lib.hid hts
    clear hT h5 hl0 hm hwh hts hxl
    go_enter Tryz.func5, Tryz.ntmps5
    go_upto_region 1 with fail
    rw [HW0.out, HU0.out]
    go_wp2_with fail
    refine (HLG.out _).mono ?_
    rintro e w2 ⟨⟨b, rfl⟩, u2, rfl⟩
    cases b with
    | true =>
      go_wp2_with fail
      refine (HWX.out _).mono ?_
      rintro e w3 ⟨rfl, u3, rfl⟩
      go_wp2_with fail
      go_ret
      exact ⟨by rfl, HBE.out _⟩
    | false =>
      go_wp2_with fail
      refine (HPR.out _).mono ?_
      rintro e w3 ⟨rfl, u3, rfl⟩
      go_wp2_with fail
      refine (HSC.out _).mono ?_
      rintro e w4 ⟨hE, hB4⟩
      obtain ⟨v, rfl, hown⟩ := hE
      obtain ⟨g, cap, rfl, hg, hc0, -⟩ := tok_cells (k := 0) hown HL0.out
      rw [HM.out]
      obtain ⟨u4, hu4⟩ := ext_next u3 HSZ.out hB4
      subst hu4
      clear hown hB4
      have hc0' : u4.w.cell? ⟨g, 0, none⟩ = some (.int .i64 2) := hc0
      clear hc0
      have hm2 : ¬ (m : Int) < 2 := by omega
      go_wp2_with fail
      go_loopw [8] (fun iv wr => ∃ i : Nat, iv = .int .i64 i ∧ i ≤ T.size ∧ Hid (Wh (X.drop i)) ∧ wr = u4.w) (fun iv _ => T.size - (intOf iv).toNat)
      case atStart => exact ⟨0, rfl, Nat.zero_le _, HWH, rfl⟩
      case round =>
        obtain ⟨i, rfl, hi, hwi, rfl⟩ := hrel
        by_cases hlt : i < T.size
        · have hlt' : (i : Int) < T.size := by omega
          have st := wh_step hwi.out (fun h => by have h1 := congrArg List.length h; rw [List.length_drop] at h1; have := HTS.out; simp at h1; omega)
          have HS := Lib.hid (sign_any T i u4.w (by omega) (by omega))
          rw [HTX.out] at HS
          have hsl := (sg_le (l := X.drop i))
          rw [List.length_drop] at hsl
          have X1 : nb (X.drop i) 0 = T[i].toNat := by rw [← HTX.out, nb_drop, Nat.add_zero]; exact (nb_get T i hlt).symm
          rw [X1] at st
          clear X1
          have hts := HTS.out
          rw [List.drop_drop] at st
          generalize sg (X.drop i) = k at *
          obtain ⟨hk1, hb32, hnext⟩ := st
          have HN := Lib.hid hnext
          have hk4 : i + k ≤ T.size := by omega
          clear hnext hts
          have d1 : decide ((k : Int) < 1) = false := by simp; omega
          have d2 : decide ((T[i].toNat : Int) < 32) = false := by simp; omega
          have d3 : ¬ (k : Int) < 1 := by omega
          have d4 : ¬ (T[i].toNat : Int) < 32 := by omega
          go_wp2_with fail
          refine HS.out.mono ?_
          rintro e w8 ⟨rfl, rfl⟩
          go_wp2_with fail
          go_round
          case rel => exact ⟨i + k, by go_num, hk4, HN, by first | rfl | trivial⟩
          case measure => simp [intOf]; omega
        · have hlt' : ¬ (i : Int) < T.size := by omega
          go_wp2_with fail
          refine (HWX.out _).mono ?_
          rintro e w9 ⟨rfl, u9, rfl⟩
          go_wp2_with fail
          go_ret
          exact ⟨by rfl, HBE.out _⟩
end Go.Proofs.YtndhpdclpgemfaaGreat

/- Layer 11: the law SpellWithin as a call. Conditions: what is read is small. -/
import Derived.Test.YtndhpdclpgemfaaGreatV29
namespace Go.Proofs.YtndhpdclpgemfaaGreat
open Go.RowKit Go.Shelf
set_option linter.unusedSimpArgs false
set_option linter.unusedVariables false
set_option maxRecDepth 100000

theorem deep_more : ∀ (d : Nat) (t : Ex), deepB d t = true → deepB (d + 1) t = true
  | 0, t, h => by rw [deepB] at h; cases h
  | d + 1, .mk op nm v ns az, h => by
    rw [deepB, Bool.and_eq_true, List.all_eq_true] at h
    rw [deepB, Bool.and_eq_true, List.all_eq_true]
    exact ⟨h.1, fun x hx => deep_more d x (h.2 x hx)⟩
theorem deep_own {op : Int} {nm : ByteArray} {az : List Ex} (h1 : ownB (.mk op nm emptyV [] az) = true) (h2 : ∀ x ∈ az, deepB 31 x = true) : deepB 32 (.mk op nm emptyV [] az) = true := by
  rw [deepB, h1, Bool.true_and, List.all_eq_true]; exact h2
theorem list_own (x y : Ex) : ownB (.mk 5 ⟨#[]⟩ emptyV [] [x, y]) = true := by rw [ownB, namedB]; kernel_rfl
theorem call_own (x : Ex) : ownB (.mk 13 ⟨#[102]⟩ emptyV [] [x]) = true := by rw [ownB, namedB]; kernel_rfl
theorem not_own (x : Ex) : ownB (.mk 9 ⟨#[]⟩ emptyV [] [x]) = true := by rw [ownB, namedB]; kernel_rfl
theorem list_text (x : Ex) : textX (.mk 5 ⟨#[]⟩ emptyV [] [x, x]) = [91] ++ textX x ++ [44, 32] ++ textX x ++ [93] := by
  rw [textX_eq, bodyX]; simp only [Int.reduceEq, reduceIte, snd_textXs, List.map_cons, List.map_nil]
  rw [show jn [textX x, textX x] = textX x ++ [44, 32] ++ textX x from by rw [show [textX x, textX x] = [textX x] ++ [textX x] from rfl, jn_snoc, if_neg (by simp), show jn [textX x] = textX x from Lib.join_one _ _]]; simp
theorem call_text (x : Ex) : textX (.mk 13 ⟨#[102]⟩ emptyV [] [x]) = [102, 40] ++ textX x ++ [41] := by
  rw [textX_eq, bodyX]; simp only [Int.reduceEq, reduceIte, snd_textXs, List.map_cons, List.map_nil]
  rw [show jn [textX x] = textX x from Lib.join_one _ _]; rfl
theorem not_text (x : Ex) : textX (.mk 9 ⟨#[]⟩ emptyV [] [x]) = [78, 79, 84, 32] ++ needX 4 x := by
  rw [textX_eq, bodyX]; simp only [Int.reduceEq, reduceIte]
  rw [ndT_get (az := [x]) (i := 0) (t := x) rfl]
theorem allR_mono {α : Type} {R S : List Value → α → Prop} {size : Nat} {css : List (List Value)} {l : List α} (hRS : ∀ cs x, R cs x → S cs x) (h : AllR R size css l) : AllR S size css l := by
  induction h with
  | nil => exact AllR.nil
  | cons h hl _ ih => exact AllR.cons (hRS _ _ h) hl ih
/-- The program's text of an expression that a law builds over a row of its own. -/
theorem sexpr_built {C B n : Nat} {W0 : World} (hC : C ≤ W0.heap.size) (hBC : B ≤ C) (op : Int) (nm : ByteArray) (cells : List Value) {css : List (List Value)} {az : List Ex} (hc : cells = css.flatten) (hop : in64 op) (hn : az.length = n) (hn2 : n ≤ 2)
    (hA : ∀ v : Ext C W0, AllR (IsX B v.w) 10 css az) (hML : ∀ v : Ext C W0, ML v.w) (hd : deepB 32 (.mk op nm emptyV [] az) = true) (hw : wtX (.mk op nm emptyV [] az) ≤ 4194304) (u : Ext C W0) :
    ∃ u2 : Ext C W0, Hid (u.w.alloc (.cells cells.toArray 36) = u2.w) ∧ Hid (Calls Tryz.prog 14 #[.agg #[.int .i64 op, .string nm, .int .i64 0, .bool false, .int .i64 0, .string ⟨#[]⟩, .slice none 0 0, .slice none 0 0, .slice none 0 0, .slice (some ⟨u.w.heap.size, 0, none⟩) n n]] u2.w fun e w' => e = .returned (.tuple #[.string (strOf (textX (.mk op nm emptyV [] az))), .int .i64 0]) ∧ ∃ u3 : Ext C W0, w' = u3.w) := by
  obtain ⟨u2, hal, hbb, hbk, hlt⟩ := mk_alloc u hC cells 36
  refine ⟨u2, Lib.hid hal, Lib.hid ?_⟩
  subst hn
  have hCu : C ≤ u.w.heap.size := Nat.le_trans hC u.below.size
  have hrow : RowR (IsX u2.w.heap.size u2.w) 10 u2.w.heap.size u2.w (some ⟨u.w.heap.size, 0, none⟩) az := rowR_block hbk hc hlt (allR_mono (fun _ _ h => IsX.mono (by omega) _ _ h) (hA u2))
  have h := sexpr_any (.mk op nm emptyV [] az) _ u2.w.heap.size u2.w (args_isX hop ⟨⟨Nat.le_refl _, by omega⟩, fun h => by cases h⟩ hrow) (Nat.le_refl _) (hML u2) hw
  rw [if_pos hd] at h
  exact ext_call u2 hC h
set_option maxHeartbeats 64000000 in
theorem spellWithin_any (HG : GroupsAt wCl) (t : Ex) (cs : List Value) (w : World) (hX : IsX w.heap.size w cs t) (hML : ML w) (hw : wtX t ≤ 1048576) :
    Calls Tryz.prog 6 #[.agg cs.toArray] w fun e w' => e = .returned (.bool true) ∧ Below w.heap.size w w' := by
  have hX0 := hX
  obtain ⟨q, hq⟩ : ∃ q, deepB 31 t = q := ⟨_, rfl⟩
  obtain ⟨T, hT⟩ : ∃ T, textX t = T := ⟨_, rfl⟩
  have htl : T.length ≤ 67108864 := by have := textX_len t; rw [hT] at this; omega
  obtain ⟨te, hte⟩ : ∃ x, t = x := ⟨_, rfl⟩
  rw [hte] at hX0 hq hT hw
  obtain ⟨op, nm, v, ns, az⟩ := t
  obtain ⟨k, b, i, s, l, ks, la, lc, ka, kc, na, nc, xa, xc, hv, rfl, hop, hV, hNA, hXA, hNS, hAZ⟩ := hX.cells
  clear hX
  obtain ⟨m, hm⟩ : ∃ m, az.length = m := ⟨_, rfl⟩
  obtain ⟨n, hn⟩ : ∃ n, ns.length = n := ⟨_, rfl⟩
  rw [hm, hn] at hX0 ⊢
  obtain ⟨W0, u0, hW0, hu0, hsz, hbe, hce⟩ := box_ext w [.int .i64 op, .string nm, .int .i64 k, .bool b, .int .i64 i, .string s, .slice la l.length lc, .slice ka ks.length kc, .slice na n nc, .slice xa m xc] 36
  have e0 := fun u => hce u 0 _ rfl
  have e1 := fun u => hce u 1 _ rfl
  have e2 := fun u => hce u 2 _ rfl
  have e3 := fun u => hce u 3 _ rfl
  have e4 := fun u => hce u 4 _ rfl
  have e5 := fun u => hce u 5 _ rfl
  have e6 := fun u => hce u 6 _ rfl
  have e7 := fun u => hce u 7 _ rfl
  have e8 := fun u => hce u 8 _ rfl
  have e9 := fun u => hce u 9 _ rfl
  have HXE : Hid (∀ u : Ext (w.heap.size + 1) W0, IsX w.heap.size u.w [.int .i64 op, .string nm, .int .i64 k, .bool b, .int .i64 i, .string s, .slice la l.length lc, .slice ka ks.length kc, .slice na n nc, .slice xa m xc] te) := Lib.hid (fun u => IsX.below (hbe u) (Nat.le_refl _) _ _ hX0)
  have HML : Hid (∀ u : Ext (w.heap.size + 1) W0, ML u.w) := Lib.hid (fun u => hML.below (hbe u))
  obtain ⟨p1, hal, hbb, hbk, hlt⟩ := mk_alloc u0 hsz [.int .i64 0, .slice none 0 0, .slice none 0 0, .int .i64 op, .string nm, .int .i64 k, .bool b, .int .i64 i, .string s, .slice la l.length lc, .slice ka ks.length kc, .slice na n nc, .slice xa m xc, .string ⟨#[]⟩, .slice none 0 0, .bool false, .slice none 0 0, .slice none 0 0, .slice none 0 0, .slice none 0 0, .slice none 0 0, .bool false] 42
  have hsm : IsSm p1.w.heap.size p1.w [.slice (some ⟨u0.w.heap.size, 0, none⟩) 1 1] ⟨[{ bareC 0 with e := te }]⟩ := ⟨_, 1, rfl, ⟨⟨Nat.le_refl _, by decide⟩, fun h => by cases h⟩, rowR_block (css := [[.int .i64 0, .slice none 0 0, .slice none 0 0, .int .i64 op, .string nm, .int .i64 k, .bool b, .int .i64 i, .string s, .slice la l.length lc, .slice ka ks.length kc, .slice na n nc, .slice xa m xc, .string ⟨#[]⟩, .slice none 0 0, .bool false, .slice none 0 0, .slice none 0 0, .slice none 0 0, .slice none 0 0, .slice none 0 0, .bool false]]) hbk rfl hlt (AllR.cons ⟨none, 0, none, 0, [.int .i64 op, .string nm, .int .i64 k, .bool b, .int .i64 i, .string s, .slice la l.length lc, .slice ka ks.length kc, .slice na n nc, .slice xa m xc], none, 0, none, 0, none, 0, none, 0, none, 0, none, 0, rfl, by show in64 0; unfold in64; omega, nil_sl, nil_row, nil_sl, nil_row, IsX.mono (by have := (hbe p1).size; omega) _ _ (HXE.out p1), nil_sl, nil_row, nil_sl, nil_row, nil_sl, nil_row, nil_sl, nil_row, nil_sl, nil_row, nil_sl, Cells.nil⟩ rfl AllR.nil)⟩
  have HLG := Lib.hid (stmtLarge_any _ _ p1.w.heap.size p1.w hsm (Nat.le_refl _) (by have h0 : (⟨#[]⟩ : ByteArray).size = 0 := rfl; have h1 : wtSm ⟨[{ bareC 0 with e := te }]⟩ = 1 + (1 + wtX te) := by { simp only [wtSm, List.map_cons, List.map_nil, List.sum_cons, List.sum_nil, wtCl, bareC, wtXs, wtS, h0]; omega }; omega))
  have HWX := Lib.hid (fun u : Ext (w.heap.size + 1) W0 => ext_call u hsz (works_any HG u.w (HML.out u)))
  have HDP := Lib.hid (fun u : Ext (w.heap.size + 1) W0 => ext_call u hsz (rdeep_any 31 te _ w.heap.size u.w 31 rfl (HXE.out u) (hbe u).size (by omega) (by omega)))
  rw [hq] at HDP
  have HX1 := Lib.hid hal
  have HBE := Lib.hid hbe
  have HSZ := Lib.hid hsz
  have HW0 := Lib.hid hW0
  have HU0 := Lib.hid hu0
  have HQ := Lib.hid hq
  have HT := Lib.hid hT
  have HWT := Lib.hid hw
  clear hsz hW0 hu0 hal hbb hbk hlt hsm hce hNS hm hn hv hV hNA hXA hAZ hX0 hop hte hML hbe hq hw
  go_enter Tryz.func6, Tryz.ntmps6
  go_upto_region 1 with fail
  rw [HW0.out, HU0.out]
  go_wp2_with fail
  rw [HX1.out]
  refine HLG.out.mono ?_
  rintro e w2 ⟨⟨b, rfl⟩, hb2⟩
  obtain ⟨p2, hp2⟩ := ext_next p1 HSZ.out hb2
  subst hp2
  clear hb2
  cases b with
  | true =>
    go_wp2_with fail
    refine (HWX.out _).mono ?_
    rintro e w3 ⟨rfl, u3, rfl⟩
    go_wp2_with fail
    go_ret
    exact ⟨by rfl, HBE.out _⟩
  | false =>
    cases q with
    | false =>
      go_wp2_with fail
      refine (HDP.out _).mono ?_
      rintro e w3 ⟨rfl, u3, rfl⟩
      go_wp2_with fail
      refine (HWX.out _).mono ?_
      rintro e w4 ⟨rfl, u4, rfl⟩
      go_wp2_with fail
      go_ret
      exact ⟨by rfl, HBE.out _⟩
    | true =>
      have hq32 : deepB 32 te = true := deep_more 31 te HQ.out
      have HSX := Lib.hid (fun u : Ext (w.heap.size + 1) W0 => ext_call u HSZ.out (sexpr_any te _ w.heap.size u.w (HXE.out u) (HBE.out u).size (HML.out u) (Nat.le_trans HWT.out (by decide))))
      rw [if_pos hq32, HT.out] at HSX
      have HB1 := Lib.hid (sexpr_built (n := 2) (B := w.heap.size) HSZ.out (Nat.le_succ _) 5 ⟨#[]⟩ [.int .i64 op, .string nm, .int .i64 k, .bool b, .int .i64 i, .string s, .slice la l.length lc, .slice ka ks.length kc, .slice na n nc, .slice xa m xc, .int .i64 op, .string nm, .int .i64 k, .bool b, .int .i64 i, .string s, .slice la l.length lc, .slice ka ks.length kc, .slice na n nc, .slice xa m xc] (css := [[.int .i64 op, .string nm, .int .i64 k, .bool b, .int .i64 i, .string s, .slice la l.length lc, .slice ka ks.length kc, .slice na n nc, .slice xa m xc], [.int .i64 op, .string nm, .int .i64 k, .bool b, .int .i64 i, .string s, .slice la l.length lc, .slice ka ks.length kc, .slice na n nc, .slice xa m xc]]) (az := [te, te]) rfl (by unfold in64; omega) rfl (by decide) (fun v => (AllR.cons (HXE.out v) rfl (AllR.cons (HXE.out v) rfl AllR.nil))) HML.out (deep_own (list_own te te) (by simp [HQ.out])) (by have h0 : (⟨#[]⟩ : ByteArray).size = 0 := rfl; have h1 : wtX (.mk 5 ⟨#[]⟩ emptyV [] [te, te]) = 1 + 0 + wtV emptyV + 0 + (wtX te + wtX te + 0) := (by simp only [wtX, wtXs, wtS, List.map_nil, List.sum_nil, h0]; first | done | omega); have h2 : wtV emptyV ≤ 100 := (by decide); have := HWT.out; omega))
      have HB2 := Lib.hid (sexpr_built (n := 1) (B := w.heap.size) HSZ.out (Nat.le_succ _) 13 ⟨#[102]⟩ [.int .i64 op, .string nm, .int .i64 k, .bool b, .int .i64 i, .string s, .slice la l.length lc, .slice ka ks.length kc, .slice na n nc, .slice xa m xc] (css := [[.int .i64 op, .string nm, .int .i64 k, .bool b, .int .i64 i, .string s, .slice la l.length lc, .slice ka ks.length kc, .slice na n nc, .slice xa m xc]]) (az := [te]) rfl (by unfold in64; omega) rfl (by decide) (fun v => (AllR.cons (HXE.out v) rfl AllR.nil)) HML.out (deep_own (call_own te) (by simp [HQ.out])) (by have h0 : (⟨#[102]⟩ : ByteArray).size = 1 := rfl; have h1 : wtX (.mk 13 ⟨#[102]⟩ emptyV [] [te]) = 1 + 1 + wtV emptyV + 0 + (wtX te + 0) := (by simp only [wtX, wtXs, wtS, List.map_nil, List.sum_nil, h0]; first | done | omega); have h2 : wtV emptyV ≤ 100 := (by decide); have := HWT.out; omega))
      have HB3 := Lib.hid (sexpr_built (n := 1) (B := w.heap.size) HSZ.out (Nat.le_succ _) 9 ⟨#[]⟩ [.int .i64 op, .string nm, .int .i64 k, .bool b, .int .i64 i, .string s, .slice la l.length lc, .slice ka ks.length kc, .slice na n nc, .slice xa m xc] (css := [[.int .i64 op, .string nm, .int .i64 k, .bool b, .int .i64 i, .string s, .slice la l.length lc, .slice ka ks.length kc, .slice na n nc, .slice xa m xc]]) (az := [te]) rfl (by unfold in64; omega) rfl (by decide) (fun v => (AllR.cons (HXE.out v) rfl AllR.nil)) HML.out (deep_own (not_own te) (by simp [HQ.out])) (by have h0 : (⟨#[]⟩ : ByteArray).size = 0 := rfl; have h1 : wtX (.mk 9 ⟨#[]⟩ emptyV [] [te]) = 1 + 0 + wtV emptyV + 0 + (wtX te + 0) := (by simp only [wtX, wtXs, wtS, List.map_nil, List.sum_nil, h0]; first | done | omega); have h2 : wtV emptyV ≤ 100 := (by decide); have := HWT.out; omega))
      rw [list_text, HT.out] at HB1
      rw [call_text, HT.out] at HB2
      rw [not_text] at HB3
      obtain ⟨Ya1, hYa1⟩ : ∃ Y, ([91] : List UInt8) ++ T = Y := ⟨_, rfl⟩
      have hla1 : Ya1.length = 1 + (T).length := by rw [← hYa1, List.length_append]; (first | done | rfl)
      have haa1 : ∀ u, (Op.stringOp .add (⟨#[91]⟩ : ByteArray) (strOf T)).run Tryz.prog u = .ok (.string (strOf Ya1)) u := fun u => add2 _ _ _ _ rfl rfl u (by show 1 + (T).length ≤ 9223372036854775807; omega) hYa1
      obtain ⟨Ya2, hYa2⟩ : ∃ Y, (Ya1 : List UInt8) ++ [44, 32] = Y := ⟨_, rfl⟩
      have hla2 : Ya2.length = (Ya1).length + 2 := by rw [← hYa2, List.length_append]; (first | done | rfl)
      have haa2 : ∀ u, (Op.stringOp .add (strOf Ya1) (⟨#[44, 32]⟩ : ByteArray)).run Tryz.prog u = .ok (.string (strOf Ya2)) u := fun u => add2 _ _ _ _ rfl rfl u (by show (Ya1).length + 2 ≤ 9223372036854775807; omega) hYa2
      obtain ⟨Ya3, hYa3⟩ : ∃ Y, (Ya2 : List UInt8) ++ T = Y := ⟨_, rfl⟩
      have hla3 : Ya3.length = (Ya2).length + (T).length := by rw [← hYa3, List.length_append]; (first | done | rfl)
      have haa3 : ∀ u, (Op.stringOp .add (strOf Ya2) (strOf T)).run Tryz.prog u = .ok (.string (strOf Ya3)) u := fun u => add2 _ _ _ _ rfl rfl u (by show (Ya2).length + (T).length ≤ 9223372036854775807; omega) hYa3
      obtain ⟨Ya4, hYa4⟩ : ∃ Y, (Ya3 : List UInt8) ++ [93] = Y := ⟨_, rfl⟩
      have hla4 : Ya4.length = (Ya3).length + 1 := by rw [← hYa4, List.length_append]; (first | done | rfl)
      have haa4 : ∀ u, (Op.stringOp .add (strOf Ya3) (⟨#[93]⟩ : ByteArray)).run Tryz.prog u = .ok (.string (strOf Ya4)) u := fun u => add2 _ _ _ _ rfl rfl u (by show (Ya3).length + 1 ≤ 9223372036854775807; omega) hYa4
      obtain ⟨Yb1, hYb1⟩ : ∃ Y, ([102, 40] : List UInt8) ++ T = Y := ⟨_, rfl⟩
      have hlb1 : Yb1.length = 2 + (T).length := by rw [← hYb1, List.length_append]; (first | done | rfl)
      have hab1 : ∀ u, (Op.stringOp .add (⟨#[102, 40]⟩ : ByteArray) (strOf T)).run Tryz.prog u = .ok (.string (strOf Yb1)) u := fun u => add2 _ _ _ _ rfl rfl u (by show 2 + (T).length ≤ 9223372036854775807; omega) hYb1
      obtain ⟨Yb2, hYb2⟩ : ∃ Y, (Yb1 : List UInt8) ++ [41] = Y := ⟨_, rfl⟩
      have hlb2 : Yb2.length = (Yb1).length + 1 := by rw [← hYb2, List.length_append]; (first | done | rfl)
      have hab2 : ∀ u, (Op.stringOp .add (strOf Yb1) (⟨#[41]⟩ : ByteArray)).run Tryz.prog u = .ok (.string (strOf Yb2)) u := fun u => add2 _ _ _ _ rfl rfl u (by show (Yb1).length + 1 ≤ 9223372036854775807; omega) hYb2
      obtain ⟨Yc1, hYc1⟩ : ∃ Y, ([78, 79, 84, 32] : List UInt8) ++ T = Y := ⟨_, rfl⟩
      have hlc1 : Yc1.length = 4 + (T).length := by rw [← hYc1, List.length_append]; (first | done | rfl)
      have hac1 : ∀ u, (Op.stringOp .add (⟨#[78, 79, 84, 32]⟩ : ByteArray) (strOf T)).run Tryz.prog u = .ok (.string (strOf Yc1)) u := fun u => add2 _ _ _ _ rfl rfl u (by show 4 + (T).length ≤ 9223372036854775807; omega) hYc1
      obtain ⟨Yd1, hYd1⟩ : ∃ Y, ([78, 79, 84, 32, 40] : List UInt8) ++ T = Y := ⟨_, rfl⟩
      have hld1 : Yd1.length = 5 + (T).length := by rw [← hYd1, List.length_append]; (first | done | rfl)
      have had1 : ∀ u, (Op.stringOp .add (⟨#[78, 79, 84, 32, 40]⟩ : ByteArray) (strOf T)).run Tryz.prog u = .ok (.string (strOf Yd1)) u := fun u => add2 _ _ _ _ rfl rfl u (by show 5 + (T).length ≤ 9223372036854775807; omega) hYd1
      obtain ⟨Yd2, hYd2⟩ : ∃ Y, (Yd1 : List UInt8) ++ [41] = Y := ⟨_, rfl⟩
      have hld2 : Yd2.length = (Yd1).length + 1 := by rw [← hYd2, List.length_append]; (first | done | rfl)
      have had2 : ∀ u, (Op.stringOp .add (strOf Yd1) (⟨#[41]⟩ : ByteArray)).run Tryz.prog u = .ok (.string (strOf Yd2)) u := fun u => add2 _ _ _ _ rfl rfl u (by show (Yd1).length + 1 ≤ 9223372036854775807; omega) hYd2
      have hf1 : [91] ++ T ++ [44, 32] ++ T ++ [93] = Ya4 := by rw [← hYa4, ← hYa3, ← hYa2, ← hYa1]
      rw [hf1] at HB1
      have hf2 : [102, 40] ++ T ++ [41] = Yb2 := by rw [← hYb2, ← hYb1]
      rw [hf2] at HB2
      have hN : [78, 79, 84, 32] ++ needX 4 te = if clX te < 4 then Yd2 else Yc1 := by
        unfold needX inP
        simp only [HT.out]
        by_cases h : clX te < 4
        · simp only [if_pos h]; rw [← hYd2, ← hYd1]; simp
        · simp only [if_neg h]; rw [← hYc1]
      rw [hN] at HB3
      clear hN hf1 hf2 hq32 hYa1 hYa2 hYa3 hYa4 hYb1 hYb2 hYc1 hYd1 hYd2
      go_wp2_with fail
      refine (HDP.out _).mono ?_
      rintro e w2 ⟨rfl, u2, rfl⟩
      by_cases h4 : clX te < 4
      · rw [if_pos h4] at HB3
        go_wp2_with fail
        refine (HSX.out _).mono ?_
        rintro e w3 ⟨rfl, u3, rfl⟩
        obtain ⟨u4, hv, hc⟩ := HB1.out u3
        go_wp2_with fail
        rw [hv.out]
        refine hc.out.mono ?_
        rintro e w4 ⟨rfl, u4', rfl⟩
        clear hv hc
        obtain ⟨u5, hv, hc⟩ := HB2.out u4'
        go_wp2_with fail
        rw [hv.out]
        refine hc.out.mono ?_
        rintro e w5 ⟨rfl, u5', rfl⟩
        clear hv hc
        obtain ⟨u6, hv, hc⟩ := HB3.out u5'
        go_wp2_with fail
        rw [hv.out]
        refine hc.out.mono ?_
        rintro e w6 ⟨rfl, u6', rfl⟩
        clear hv hc
        go_wp2_with fail
        all_goals
          refine (HWX.out _).mono ?_
          rintro e w7 ⟨rfl, u7, rfl⟩
          go_wp2_with fail
          go_ret
          exact ⟨by rfl, HBE.out _⟩
      · rw [if_neg h4] at HB3
        go_wp2_with fail
        refine (HSX.out _).mono ?_
        rintro e w3 ⟨rfl, u3, rfl⟩
        obtain ⟨u4, hv, hc⟩ := HB1.out u3
        go_wp2_with fail
        rw [hv.out]
        refine hc.out.mono ?_
        rintro e w4 ⟨rfl, u4', rfl⟩
        clear hv hc
        obtain ⟨u5, hv, hc⟩ := HB2.out u4'
        go_wp2_with fail
        rw [hv.out]
        refine hc.out.mono ?_
        rintro e w5 ⟨rfl, u5', rfl⟩
        clear hv hc
        obtain ⟨u6, hv, hc⟩ := HB3.out u5'
        go_wp2_with fail
        rw [hv.out]
        refine hc.out.mono ?_
        rintro e w6 ⟨rfl, u6', rfl⟩
        clear hv hc
        go_wp2_with fail
        refine (HWX.out _).mono ?_
        rintro e w7 ⟨rfl, u7, rfl⟩
        go_wp2_with fail
        go_ret
        exact ⟨by rfl, HBE.out _⟩
end Go.Proofs.YtndhpdclpgemfaaGreat

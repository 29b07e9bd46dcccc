/- Parts X45, X46 of this seat (pruned, scripts that are alike kept once as default arguments: q1, q2, ..). Conditions: each says its own. -/
import Derived.Test.YtndhpdclpgemfaaGreatV24
import Derived.Test.YtndhpdclpgemfaaGreatV26
import Derived.Test.YtndhpdclpgemfaaGreatV28
namespace Go.Proofs.YtndhpdclpgemfaaGreat
open Go.RowKit Go.Shelf
set_option linter.unusedSimpArgs false
set_option linter.unusedVariables false
set_option maxRecDepth 100000
theorem Sv524671 {P : Prop} (h : P := by
 first
 | (guard_hyp z524671a; rw [if_neg (by decide)] at HSX HRX)
 | (rw [if_pos rfl] at HSX HRX)
 go_wp2_with fail
 refine (HSX.out _).mono ?_
 rintro e w3 ⟨rfl, u3, rfl⟩
 go_wp2_with fail
 refine (HRX.out _).mono ?_
 rintro e w4 ⟨rfl, u4, rfl⟩
 go_wp2_with fail
 refine (HSK.out _).mono ?_
 rintro e w5 ⟨rfl, u5, rfl⟩
 go_wp2_with fail
 refine (HRK.out _).mono ?_
 rintro e w6 ⟨rfl, u6, rfl⟩
 go_wp2_with fail
 refine (HWX.out _).mono ?_
 rintro e w7 ⟨rfl, u7, rfl⟩
 go_wp2_with fail
 go_ret
 exact ⟨by rfl, HBE.out _⟩) : P := h
set_option maxHeartbeats 64000000 in
theorem spellExprs_any (HG : GroupsAt wCl) (t : Ex) (key : ByteArray) (cs : List Value) (w : World) (hX : IsX w.heap.size w cs t) (hML : ML w) (hw : wtX t ≤ 1048576) (hkey : key.size ≤ 1099511627776) :
    Calls Tryz.prog 4 #[.agg cs.toArray, .string key] w fun e w' => e = .returned (.bool true) ∧ Below w.heap.size w w' := by
 have hX0 := hX
 obtain ⟨q, hq⟩ := nam (deepB 32 t)
 obtain ⟨T, hT⟩ := nam (textX t)
 have htl : T.length ≤ 67108864 := by have := textX_len t; rw [hT] at this; omega
 obtain ⟨te, hte⟩ := nam t
 rw [hte] at hX0 hq hT hw
 obtain ⟨op, nm, v, ns, az⟩ := t
 obtain ⟨k, b, i, s, l, ks, la, lc, ka, kc, na, nc, xa, xc, hv, rfl, hop, hV, hNA, hXA, hNS, hAZ⟩ := hX.cells
 clear hX
 obtain ⟨m, hm⟩ := nam az.length
 obtain ⟨n, hn⟩ := nam ns.length
 rw [hm, hn] at hX0 ⊢
 obtain ⟨W0, u0, hW0, hu0, hsz, hbe, hce⟩ := box_ext w [.int .i64 op, .string nm, .int .i64 k, .bool b, .int .i64 i, .string s, .slice la l.length lc, .slice ka ks.length kc, .slice na n nc, .slice xa m xc] 36
 obtain ⟨e0, e1, e2, e3, e4, e5, e6, e7, e8, e9⟩ := ge10 hce
 obtain ⟨x0, x1, x2, x3, x4, x5, x6, x7, x8, x9⟩ := gx10 hce u0
 rw [← hu0, ← hW0] at x0 x1 x2 x3 x4 x5 x6 x7 x8 x9
 have HXE : Hid (∀ u : Ext (w.heap.size + 1) W0, IsX w.heap.size u.w [.int .i64 op, .string nm, .int .i64 k, .bool b, .int .i64 i, .string s, .slice la l.length lc, .slice ka ks.length kc, .slice na n nc, .slice xa m xc] te) := Lib.hid (fun u => IsX.below (hbe u) (Nat.le_refl _) _ _ hX0)
 have HML : Hid (∀ u : Ext (w.heap.size + 1) W0, ML u.w) := Lib.hid (fun u => hML.below (hbe u))
 obtain ⟨p1, hal, hbb, hbk, hlt⟩ := mk_alloc u0 hsz [.int .i64 0, .slice none 0 0, .slice none 0 0, .int .i64 op, .string nm, .int .i64 k, .bool b, .int .i64 i, .string s, .slice la l.length lc, .slice ka ks.length kc, .slice na n nc, .slice xa m xc, .string ⟨#[]⟩, .slice none 0 0, .bool false, .slice none 0 0, .slice none 0 0, .slice none 0 0, .slice none 0 0, .slice none 0 0, .bool false] 42
 have hsm : IsSm p1.w.heap.size p1.w [.slice (some ⟨u0.w.heap.size, 0, none⟩) 1 1] ⟨[{ bareC 0 with e := te }]⟩ := ⟨_, 1, rfl, ⟨⟨Nat.le_refl _, by decide⟩, fun h => by cases h⟩, rowR_block (css := [[.int .i64 0, .slice none 0 0, .slice none 0 0, .int .i64 op, .string nm, .int .i64 k, .bool b, .int .i64 i, .string s, .slice la l.length lc, .slice ka ks.length kc, .slice na n nc, .slice xa m xc, .string ⟨#[]⟩, .slice none 0 0, .bool false, .slice none 0 0, .slice none 0 0, .slice none 0 0, .slice none 0 0, .slice none 0 0, .bool false]]) hbk rfl hlt (AllR.cons ⟨none, 0, none, 0, [.int .i64 op, .string nm, .int .i64 k, .bool b, .int .i64 i, .string s, .slice la l.length lc, .slice ka ks.length kc, .slice na n nc, .slice xa m xc], none, 0, none, 0, none, 0, none, 0, none, 0, none, 0, rfl, by show in64 0; unfold in64; omega, nil_sl, nil_row, nil_sl, nil_row, IsX.mono (by have := (hbe p1).size; omega) _ _ (HXE.out p1), nil_sl, nil_row, nil_sl, nil_row, nil_sl, nil_row, nil_sl, nil_row, nil_sl, nil_row, nil_sl, Cells.nil⟩ rfl AllR.nil)⟩
 have HLG := Lib.hid (stmtLarge_any _ _ p1.w.heap.size p1.w hsm (Nat.le_refl _) (by have h0 : (⟨#[]⟩ : ByteArray).size = 0 := rfl; have h1 : wtSm ⟨[{ bareC 0 with e := te }]⟩ = 1 + (1 + wtX te) := by { simp only [wtSm, List.map_cons, List.map_nil, List.sum_cons, List.sum_nil, wtCl, bareC, wtXs, wtS, h0]; omega }; omega))
 have HWK := Lib.hid (fun u : Ext (w.heap.size + 1) W0 => works_any HG u.w (HML.out u))
 have HSX := Lib.hid (fun u : Ext (w.heap.size + 1) W0 => ext_call u hsz (sexpr_any te _ w.heap.size u.w (HXE.out u) (hbe u).size (HML.out u) (by omega)))
 have HRX := Lib.hid (fun u : Ext (w.heap.size + 1) W0 => ext_call u hsz (rexpr_any te _ w.heap.size u.w (HXE.out u) (hbe u).size hw))
 rw [hq, hT] at HSX HRX
 have HSK := Lib.hid (fun u : Ext (w.heap.size + 1) W0 => ext_call u hsz (skeyT_any key u.w hkey (HML.out u)))
 have HRK := Lib.hid (fun u : Ext (w.heap.size + 1) W0 => ext_call u hsz (rkeyT_any key u.w hkey))
 have HWX := Lib.hid (fun u : Ext (w.heap.size + 1) W0 => ext_call u hsz (HWK.out u))
 obtain ⟨HBE, HSZ, HW0, HU0, HX1⟩ := hd5 hbe hsz hW0 hu0 hal
 clear hbe hsz hW0 hu0 hal hbb hbk hlt hsm hce hNS hm hn hv hV hNA hXA hAZ hX0 hw hop hq hT hte hML HML HXE HWK
 go_enter Tryz.func4, Tryz.ntmps4
 go_upto_region 1 with fail
 rw [HW0.out, HU0.out]
 clear x0 x1 x2 x3 x4 x5 x6 x7 x8 x9
 go_wp2_with fail
 rw [HX1.out]
 refine HLG.out.mono ?_
 rintro e w2 ⟨⟨b, rfl⟩, hb2⟩
 obtain ⟨p2, hp2⟩ := ext_next p1 HSZ.out hb2
 subst hp2
 clear hb2
 cases b with
 | true =>
  go_wp2_with fail
  refine (HWX.out _).mono ?_
  rintro e w3 ⟨rfl, u3, rfl⟩
  go_wp2_with fail
  go_ret
  exact ⟨by rfl, HBE.out _⟩
 | false =>
  cases q with
  | true =>
   exact Sv524671
  | false =>
   have z524671a := trivial
   exact Sv524671
end Go.Proofs.YtndhpdclpgemfaaGreat
namespace Go.Proofs.YtndhpdclpgemfaaGreat
open Go.RowKit Go.Shelf
theorem groups_wCl : GroupsAt wCl := fun cs B w h1 h2 h3 => groups_9 alike_any wCl cs B w h1 h2 h3 rfl
theorem spellExprs_all (t : Ex) (key : ByteArray) (cs : List Value) (w : World) (hX : IsX w.heap.size w cs t) (hML : ML w) (hw : wtX t ≤ 1048576) (hkey : key.size ≤ 1099511627776) :
    Calls Tryz.prog 4 #[.agg cs.toArray, .string key] w fun e w' => e = .returned (.bool true) ∧ Below w.heap.size w w' :=
  spellExprs_any groups_wCl t key cs w hX hML hw hkey
end Go.Proofs.YtndhpdclpgemfaaGreat

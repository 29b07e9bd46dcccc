/- Parts Q16, Q17 of this seat (pruned, scripts that are alike kept once as default arguments: q1, q2, ..). Conditions: each says its own. -/
import Derived.Test.YteljlahcdipilaaGreatF27
namespace Go.Proofs.YteljlahcdipilaaGreat
open Go.RowKit Go.Shelf
set_option linter.unusedSimpArgs false
set_option linter.unusedVariables false
set_option maxRecDepth 100000
theorem Tryz.infoS : (Tryz.prog.info? 9).map (fun i => (i.zero, i.size, i.bytes)) = some (some (.string ⟨#[]⟩), 1, 16) := by kernel_rfl
theorem Row.grown {α : Type} {R : World → List Value → α → Prop} {ty : TypeId} {size B : Nat} {S : Nat → Prop} {w w1 : World} {lv : Value} {l : List α} {o : Obj} {r : Option Nat} (h : Row R ty size B S w lv l) (hg : (w.alloc o).grownBy w1 r) (hr : ∀ q, (S q ∨ lv.ownBlock = some q) → r ≠ some q) : Row R ty size B S w1 lv l :=
  h.same fun q hq => (hg.block q (by have := (h.lt hq).2; simp; omega) (fun e => hr q hq e.symm)).trans (Below.heap_alloc _ _ _ (h.lt hq).2)
def Aprt (S1 : Nat → Prop) (v1 : Value) (S2 : Nat → Prop) (v2 : Value) : Prop := ∀ q, (S1 q ∨ v1.ownBlock = some q) → ¬ (S2 q ∨ v2.ownBlock = some q)
structure PairsAt (bp : Nat) (a : Option Addr) (cap : Nat) (L : List (Tok × Nat)) (w : World) (x : Pr) (f kb : Nat) (g k : Nat) (Sk S : Nat → Prop) (kv lv : Value) (ks : List ByteArray) (l : List Ex) (u : World) : Prop where
  st : St bp a cap L w k u
  lt : k < L.length
  ln : l.length + kb ≤ k ∧ ks.length = l.length
  kow : Row RS 9 1 w.heap.size Sk u kv ks
  row : Row RX 66 10 w.heap.size S u lv l
  ap : Aprt Sk kv S lv
  le : g ≤ f
  rn : run g (.pairs ks l) (rem L k) = some x
theorem nameG (w : World) (n : ByteArray) : HG (fun w' => RS w' [.string n] n) (fun _ => False) w := ⟨fun _ h => h.elim, fun _ _ => rfl⟩
set_option maxHeartbeats 8000000 in
theorem props_any {f : Nat} (HR : Rec f) (bp : Nat) (a : Option Addr) (cap : Nat) (L : List (Tok × Nat)) (k : Nat) (w : World) (x : Pr) (h : Ps bp a cap L k w) (hT : Tk L) (hk : k < L.length)  (hr : run (f + 1) (.props) (rem L k) = some x) :
    Calls Tryz.prog 122 #[.pointer (some ⟨bp, 0, none⟩)] w (PR RtKv bp L k w x) := by
 have hr : Go.Proofs.YteljlahcdipilaaGreat.step (run f) (.props) (rem L k) = some x := hr
 simp only [Go.Proofs.YteljlahcdipilaaGreat.step, sigB, tail_rem] at hr
 have HT := Lib.hid hT
 have HK0 := Lib.hid hk
 have X0 := Lib.hid hr
 have hbw := h.lt
 have S0 := Lib.hid (St.start h)
 clear h hT hk hr
 go_enter Tryz.func122, Tryz.ntmps122
 go_wp2_with (go_at_call 118; refine Stand.out ?_)
 refine Stand.mk ?_
 refine (mustSign_go S0.out HT.out HK0.out X0.out).mono ?_
 rintro e u1 (⟨p9, r9, rfl, rfl, f9⟩ | ⟨l1, x1, rfl, m1⟩)
 ·go_wp2_with fail
  exact ⟨rfl, f9⟩
 have X1 := Lib.hid x1
 have HK1 := Lib.hid l1
 clear x1 l1
 have S1 := Lib.hid (S0.out.call m1)
 have zz1 := Mv.size m1
 clear m1
 cases h0 : isT 5 [125] (rem L (k + 1)) with
 | true =>
  have RX := Lib.hid X1.out
  simp only [sigB, tail_rem, h0, if_true] at RX
  obtain rfl := Option.some.inj RX.out
  go_wp2_with (go_at_call 103; refine Stand.out ?_)
  refine Stand.mk ?_
  refine (skip_t S1.out HK1.out h0).mono ?_
  rintro e u2 ⟨rfl, m2⟩
  have S2 := Lib.hid (S1.out.call m2)
  have zz2 := Mv.size m2
  clear m2
  have HK2 := Lib.hid (HT.out.next HK1.out h0 (by decide))
  go_wp2_with fail
  go_ret2
  exact ⟨k + 1 + 1, _, by omega, HK2.out, rfl, rfl, ⟨fun _ => False, none, 0, none, 0, rfl, fun _ h => h.elim, ⟨fun _ h => h.elim, fun _ _ => .inl rfl⟩, ⟨fun _ h => h.elim, fun _ _ => nil_row⟩, nil_sl, nil_sl⟩, S2.out.mv⟩
 | false =>
  have RX := Lib.hid X1.out
  simp only [sigB, tail_rem, h0, if_false, Bool.false_eq_true] at RX
  go_wp2_with (go_at_call 103; refine Stand.out ?_)
  refine Stand.mk ?_
  refine (skip_f S1.out HK1.out h0).mono ?_
  rintro e u2 ⟨rfl, m2⟩
  have S2 := Lib.hid (S1.out.call m2)
  have zz2 := Mv.size m2
  clear m2
  go_wp2_with fail
  go_loopg [4, 5] f (fun g kv lv wr => ∃ (k0 : Nat) (Sk S : Nat → Prop) (ks : List ByteArray) (l : List Ex), Hid (PairsAt bp a cap L w x f (k + 1) g k0 Sk S kv lv ks l wr))
  case atStart => exact ⟨k + 1, _, _, [], [], Lib.hid ⟨S2.out, HK1.out, ⟨by simp, rfl⟩, Row.nil, Row.nil, (fun q hq => hq.elim (fun h => h.elim) (fun h => by cases h)), Nat.le_refl _, RX.out⟩⟩
  case round =>
   clear S1 RX X0 S0 HK0 S2 X1 HK1
   obtain ⟨k0, Sk, S, ks, l, hP⟩ := hrel
   have hP := hP.out
   cases gk with
   | zero => exact absurd hP.rn (by intro h; cases h)
   | succ g =>
    have rn : Go.Proofs.YteljlahcdipilaaGreat.step (run g) (.pairs ks l) (rem L k0) = some x := hP.rn
    simp only [Go.Proofs.YteljlahcdipilaaGreat.step] at rn
    have S10 := Lib.hid hP.st
    have R10a := Lib.hid hP.kow
    have R10b := Lib.hid hP.row
    have AP := Lib.hid hP.ap
    have HK10 := Lib.hid hP.lt
    have hln := hP.ln.1
    have hkl := hP.ln.2
    have hll := hP.lt
    have hL := hP.st.ln
    have hgf := hP.le
    have RN := Lib.hid rn
    clear hP rn
    go_wp2_with (go_at_call 120; refine Stand.out ?_)
    refine Stand.mk ?_
    refine (key_go S10.out HT.out HK10.out RN.out).mono ?_
    rintro e u11 (⟨p9, r9, rfl, rfl, f9⟩ | ⟨n11, l11, x11, rfl, m11⟩)
    ·go_wp2_with fail
     exact ⟨rfl, f9⟩
    have X11 := Lib.hid x11
    have HK11 := Lib.hid l11
    clear x11 l11
    have S11 := Lib.hid (S10.out.call m11)
    have R11a := Lib.hid (R10a.out.mv m11 hbw)
    have R11b := Lib.hid (R10b.out.mv m11 hbw)
    have zz11 := Mv.size m11
    clear m11
    go_wp2_with (at_builtin; refine wpList_append_row (R := RS) rfl _ _ 62 rfl Tryz.underlying62 Tryz.infoS rfl (by decide) (by decide) R11a.out (nameG u11 n11) rfl (fun _ h => h.elim) rfl rfl (by simp [Value.oneCell']) (by omega) S11.out.size ?_)
    intro kv u12 hR hg ho hp
    have S12 := Lib.hid ((S11.out.alloc _).grown hg ho)
    have R12a := Lib.hid hR
    have R12b := Lib.hid (R11b.out.grown hg (fun q hq e => AP.out q (.inr e) hq))
    have zz12 : u11.heap.size + 1 ≤ u12.heap.size := by have := hg.size; simpa using this
    have AP12 : Hid (Aprt Sk kv S _) := Lib.hid (fun q hq => by rcases hq with hq | hq; exact AP.out q (.inl hq); rcases hp q hq with e | e; exact AP.out q (.inr e); exact fun h => absurd (R11b.out.lt h).2 (by omega))
    clear hR hg ho hp R11a R11b S11 S10 R10a R10b AP
    go_wp2_with (go_at_call 118; refine Stand.out ?_)
    refine Stand.mk ?_
    refine (mustSign_go S12.out HT.out HK11.out X11.out).mono ?_
    rintro e u13 (⟨p9, r9, rfl, rfl, f9⟩ | ⟨l13, x13, rfl, m13⟩)
    ·go_wp2_with fail
     exact ⟨rfl, f9⟩
    have X13 := Lib.hid x13
    have HK13 := Lib.hid l13
    clear x13 l13
    have S13 := Lib.hid (S12.out.call m13)
    have R13a := Lib.hid (R12a.out.mv m13 hbw)
    have R13b := Lib.hid (R12b.out.mv m13 hbw)
    have zz13 := Mv.size m13
    clear m13
    go_wp2_with (go_at_call 97; refine Stand.out ?_)
    refine Stand.mk ?_
    refine ((HR.expr g (by omega) 1 (by decide)).go2 S13.out HT.out HK13.out X13.out).mono ?_
    rintro e u14 (⟨p9, r9, rfl, rfl, f9⟩ | ⟨v14, k14, val14, q14, l14, x14, rfl, ⟨T14, ds14, rfl, hT14, hX14⟩, m14⟩)
    ·go_wp2_with fail
     exact ⟨rfl, f9⟩
    have X14 := Lib.hid x14
    have HK14 := Lib.hid l14
    clear x14 l14
    have S14 := Lib.hid (S13.out.call m14)
    have R14a := Lib.hid (R13a.out.mv m14 hbw)
    have R14b := Lib.hid (R13b.out.mv m14 hbw)
    have zz14 := Mv.size m14
    clear m14
    obtain ⟨op, nm, vk, vb, vi, vs, la, ln, lc, ka, kn, kc, na, nn, nc, xa, xn, xc, -, -, rfl⟩ := hX14.ten
    have V14t := Lib.hid hX14
    go_wp2_with (at_builtin; refine wpList_append_row (R := RX) rfl _ _ 60 rfl Tryz.underlying60 Tryz.infoX rfl (by decide) (by decide) R14b.out V14t.out rfl (fun b hb => ⟨Nat.le_trans S13.out.size (hT14 b hb), fun e => absurd (hT14 b hb) (by have := (R13b.out.lt (.inr e)).2; omega)⟩) rfl rfl (by simp [Value.oneCell']) (by omega) S14.out.size ?_)
    intro lv u15 hR hg ho hp
    have S15 := Lib.hid ((S14.out.alloc _).grown hg ho)
    have R15b := Lib.hid hR
    have R15a := Lib.hid (R14a.out.grown hg (fun q hq e => AP12.out q hq (.inr e)))
    have zz15 : u14.heap.size + 1 ≤ u15.heap.size := by have := hg.size; simpa using this
    have AP15 : Hid (Aprt Sk kv (fun b => S b ∨ T14 b) lv) := Lib.hid (fun q hq h => by rcases h with (h | h) | h; exact AP12.out q hq (.inl h); exact absurd (hT14 q h) (by have := (R13a.out.lt hq).2; omega); rcases hp q h with e | e; exact AP12.out q hq (.inr e); exact absurd (R14a.out.lt hq).2 (by omega))
    clear hR hg ho hp hX14 V14t R14a R14b R13a R13b R12a R12b S12 S13 S14 AP12
    cases h44 : isT 5 [44] (rem L k14) with
    | true =>
     have RY := Lib.hid X14.out
     simp only [sigB, h44, if_true, tail_rem] at RY
     go_wp2_with (go_at_call 103; refine Stand.out ?_)
     refine Stand.mk ?_
     refine (skip_t S15.out HK14.out h44).mono ?_
     rintro e u16 ⟨rfl, m16⟩
     have S16 := Lib.hid (S15.out.call m16)
     have R16a := Lib.hid (R15a.out.mv m16 hbw)
     have R16b := Lib.hid (R15b.out.mv m16 hbw)
     have zz16 := Mv.size m16
     clear m16
     have HK16 := Lib.hid (HT.out.next HK14.out h44 (by decide))
     go_wp2_with fail
     go_roundg g
     case measure => omega
     case rel => exact ⟨k14 + 1, _, _, ks ++ [n11], l ++ [v14.ex], Lib.hid ⟨S16.out, HK16.out, ⟨by simp; omega, by simp [hkl]⟩, R16a.out, R16b.out, AP15.out, by omega, RY.out⟩⟩
    | false =>
     have RY := Lib.hid X14.out
     simp only [sigB, h44, if_false, Bool.false_eq_true] at RY
     go_wp2_with (go_at_call 103; refine Stand.out ?_)
     refine Stand.mk ?_
     refine (skip_f S15.out HK14.out h44).mono ?_
     rintro e u16 ⟨rfl, m16⟩
     have S16 := Lib.hid (S15.out.call m16)
     have R16a := Lib.hid (R15a.out.mv m16 hbw)
     have R16b := Lib.hid (R15b.out.mv m16 hbw)
     have zz16 := Mv.size m16
     clear m16
     go_wp2_with (go_at_call 118; refine Stand.out ?_)
     refine Stand.mk ?_
     refine (mustSign_go S16.out HT.out HK14.out RY.out).mono ?_
     rintro e u17 (⟨p9, r9, rfl, rfl, f9⟩ | ⟨l17, x17, rfl, m17⟩)
     ·go_wp2_with fail
      exact ⟨rfl, f9⟩
     have X17 := Lib.hid x17
     have HK17 := Lib.hid l17
     clear x17 l17
     have S17 := Lib.hid (S16.out.call m17)
     have R17a := Lib.hid (R16a.out.mv m17 hbw)
     have R17b := Lib.hid (R16b.out.mv m17 hbw)
     have zz17 := Mv.size m17
     clear m17
     obtain rfl := Option.some.inj X17.out
     obtain ⟨S8, ka9, kc9, rfl, ksl, hS8, hR8⟩ := R17a.out.fin
     obtain ⟨S9, xa9, xc9, rfl, hsl, hS9, hR9⟩ := R17b.out.fin
     go_wp2_with fail
     go_ret2
     exact ⟨k14 + 1, _, by omega, HK17.out, rfl, rfl, ⟨fun b => S8 b ∨ S9 b, ka9, kc9, xa9, xc9, by simp [V.exs, V.strs, hkl], fun b hb => hb.elim (fun hb => (R17a.out.lt (hS8 b hb)).1) (fun hb => (R17b.out.lt (hS9 b hb)).1), (hR8.imp fun w' h => rowS_str h).mono (fun b hb => .inl hb) (fun b hb => hb.elim (hR8.1 b) (hR9.1 b)), hR9.mono (fun b hb => .inr hb) (fun b hb => hb.elim (hR8.1 b) (hR9.1 b)), ksl, hsl⟩, S17.out.mv⟩
theorem nameT_st {bp : Nat} {a : Option Addr} {cap : Nat} {L : List (Tok × Nat)} {w u : World} {k : Nat} (s : St bp a cap L w k u) (hk : k < L.length) (h : (nx (rem L k)).k = 1) :
    Calls Tryz.prog 99 #[.pointer (some ⟨bp, 0, none⟩)] u fun e u' => e = .returned (.string (strOf (nx (rem L k)).t)) ∧ Mv bp (k + 1) u u' := by
 obtain ⟨y, hy⟩ := get_lt hk
 rw [nx_rem hy] at h ⊢
 exact name_yes bp a cap L k y u s.ps hy h
theorem hx_leaf {op : Int} {nm : ByteArray} (w : World) (ho : in64 op) : HX (fun _ => False) w [.int .i64 op, .string nm, .int .i64 0, .bool false, .int .i64 0, .string ⟨#[]⟩, .slice none 0 0, .slice none 0 0, .slice none 0 0, .slice none 0 0] (mE op nm []) :=
  hx_args (az := []) ho nil_sl ⟨fun _ h => h.elim, fun _ _ => nil_row⟩
theorem hx_val {vk i : Int} {b : Bool} {s : ByteArray} (w : World) (hk : in64 vk) (hi : in64 i) : HX (fun _ => False) w [.int .i64 1, .string ⟨#[]⟩, .int .i64 vk, .bool b, .int .i64 i, .string s, .slice none 0 0, .slice none 0 0, .slice none 0 0, .slice none 0 0] (mV (.mk vk b i s [] [])) :=
  ⟨fun _ h => h.elim, fun w' _ => by
    unfold mV IsX
    refine ⟨[.int .i64 vk, .bool b, .int .i64 i, .string s, .slice none 0 0, .slice none 0 0], none, 0, none, 0, rfl, by unfold in64; omega, ?_, nil_sl, nil_sl, Cells.nil, isXs_iff.2 nil_row⟩
    unfold IsV
    exact ⟨none, 0, none, 0, rfl, hk, hi, by simp, by simp, fun _ => rfl, fun _ => rfl, .inl rfl, by simp [IsVs]⟩⟩
set_option maxHeartbeats 8000000 in
theorem named_var {f : Nat} (HR : Rec f) (bp : Nat) (a : Option Addr) (cap : Nat) (L : List (Tok × Nat)) (k : Nat) (w : World) (x : Pr) (h : Ps bp a cap L k w) (hT : Tk L) (hk : k < L.length) (hk1 : (nx (rem L k)).k = 1) (hpn : isT 5 [40] (rem L (k + 1)) = false) (hr : run (f + 1) (.atom) (rem L k) = some x) :
    Calls Tryz.prog 130 #[.pointer (some ⟨bp, 0, none⟩)] w (PR RtX bp L k w x) := by
 have tk13 : ¬ (1 : Nat) = 3 := by decide
 have tk14 : ¬ (1 : Nat) = 4 := by decide
 have hr : Go.Proofs.YteljlahcdipilaaGreat.step (run f) (.atom) (rem L k) = some x := hr
 simp only [Go.Proofs.YteljlahcdipilaaGreat.step, sigB, hk1, if_true, tk13, tk14, if_false, hpn, Bool.false_eq_true, tail_rem] at hr
 have HT := Lib.hid hT
 have HK0 := Lib.hid hk
 have X0 := Lib.hid hr
 have hbw := h.lt
 obtain ⟨u0, hy0⟩ : ∃ u, w.alloc (.cells #[.int .i64 0, .string ⟨#[]⟩, .int .i64 0, .bool false, .int .i64 0, .string ⟨#[]⟩, .slice none 0 0, .slice none 0 0, .slice none 0 0, .slice none 0 0] 66) = u := ⟨_, rfl⟩
 have s0 : St bp a cap L w k u0 := by rw [← hy0]; exact (St.start h).alloc _
 have b0 : Block u0 w.heap.size zX 66 := by rw [← hy0]; exact Block.new w _ _
 have B0r := Lib.hid b0
 clear b0
 have S0 := Lib.hid s0
 have HU := Lib.hid hy0
 clear s0 hy0 h hT hk hr
 obtain ⟨tk, htk⟩ := nam (nx (rem L k))
 have HTK := Lib.hid htk
 have HK1 := Lib.hid hk1
 clear hk1 htk
 go_enter Tryz.func130, Tryz.ntmps130
 go_upto_region 1 with fail
 rw [HU.out]
 go_wp2_with (go_at_call 99; refine Stand.out ?_)
 refine Stand.mk ?_
 refine (nameT_st S0.out HK0.out HK1.out).mono ?_
 rw [HTK.out]
 rintro e u1 ⟨rfl, m1⟩
 have S1 := Lib.hid (S0.out.call m1)
 have B1r := Lib.hid (m1.blk B0r.out (by omega))
 have zz1 := Mv.size m1
 clear m1
 have HKN : Hid (k + 1 < L.length) := Lib.hid (HT.out.step HK0.out (by rw [HK1.out]; decide))
 go_wp2_with (go_at_call 103; refine Stand.out ?_)
 refine Stand.mk ?_
 refine (skip_f S1.out HKN.out hpn).mono ?_
 rintro e u2 ⟨rfl, m2⟩
 have S2 := Lib.hid (S1.out.call m2)
 have B2r := Lib.hid (m2.blk B1r.out (by omega))
 have zz2 := Mv.size m2
 clear m2
 have RX := X0.out
 rw [HTK.out] at RX
 have X0 := Lib.hid RX
 clear RX
 have zb := B2r.out.lt
 obtain rfl := Option.some.inj X0.out
 have hTh := block_there B2r.out 0 10 (Nat.le_refl 10)
 go_wp2_with (refine wpList_store_mid rfl 66 _ _ rfl w.heap.size 0 #[.int .i64 2, .string (strOf tk.t), .int .i64 0, .bool false, .int .i64 0, .string ⟨#[]⟩, .slice none 0 0, .slice none 0 0, .slice none 0 0, .slice none 0 0] rfl rfl hTh (by kernel_rfl) (by simp [Value.oneCell']) ?_)
 have B99 := B2r.out.setCells [.int .i64 2, .string (strOf tk.t), .int .i64 0, .bool false, .int .i64 0, .string ⟨#[]⟩, .slice none 0 0, .slice none 0 0, .slice none 0 0, .slice none 0 0] 0
 refine bodyPost_ret (results_cell_row (by rfl) _ _ w.heap.size 66 _ (0, 0) _ (by rfl) B99 Tryz.underlying66 rfl (by kernel_rfl)) rfl ?_
 exact ⟨(k + 1), _, by omega, HKN.out, rfl, rfl, RtX.mk (hx_leaf _ (by unfold in64; omega)) (rfl) (fun _ h => h.elim), (S2.out.sets (Nat.le_refl _) 0 _).mv⟩
set_option maxHeartbeats 8000000 in
theorem named_call {f : Nat} (HR : Rec f) (bp : Nat) (a : Option Addr) (cap : Nat) (L : List (Tok × Nat)) (k : Nat) (w : World) (x : Pr) (h : Ps bp a cap L k w) (hT : Tk L) (hk : k < L.length) (hk1 : (nx (rem L k)).k = 1) (hpn : isT 5 [40] (rem L (k + 1)) = true) (hc0 : ((strOf (nx (rem L k)).t).toList == [99, 111, 117, 110, 116]) = false) (hc1 : ((strOf (nx (rem L k)).t).toList == [115, 117, 109]) = false) (hc2 : ((strOf (nx (rem L k)).t).toList == [109, 105, 110]) = false) (hc3 : ((strOf (nx (rem L k)).t).toList == [109, 97, 120]) = false) (hc4 : ((strOf (nx (rem L k)).t).toList == [99, 111, 108, 108, 101, 99, 116]) = false) (hr : run (f + 1) (.atom) (rem L k) = some x) :
    Calls Tryz.prog 130 #[.pointer (some ⟨bp, 0, none⟩)] w (PR RtX bp L k w x) := by
 have tk13 : ¬ (1 : Nat) = 3 := by decide
 have tk14 : ¬ (1 : Nat) = 4 := by decide
 have hag : aggB (strOf (nx (rem L k)).t) = false := by unfold aggB; rw [hc0, hc1, hc2, hc3, hc4]; rfl
 have hr : Go.Proofs.YteljlahcdipilaaGreat.step (run f) (.atom) (rem L k) = some x := hr
 simp only [Go.Proofs.YteljlahcdipilaaGreat.step, sigB, hk1, if_true, tk13, tk14, if_false, hpn, hag, Bool.false_eq_true, tail_rem] at hr
 have HT := Lib.hid hT
 have HK0 := Lib.hid hk
 have X0 := Lib.hid hr
 have hbw := h.lt
 obtain ⟨u0, hy0⟩ : ∃ u, w.alloc (.cells #[.int .i64 0, .string ⟨#[]⟩, .int .i64 0, .bool false, .int .i64 0, .string ⟨#[]⟩, .slice none 0 0, .slice none 0 0, .slice none 0 0, .slice none 0 0] 66) = u := ⟨_, rfl⟩
 have s0 : St bp a cap L w k u0 := by rw [← hy0]; exact (St.start h).alloc _
 have b0 : Block u0 w.heap.size zX 66 := by rw [← hy0]; exact Block.new w _ _
 have B0r := Lib.hid b0
 clear b0
 have S0 := Lib.hid s0
 have HU := Lib.hid hy0
 clear s0 hy0 h hT hk hr
 obtain ⟨tk, htk⟩ := nam (nx (rem L k))
 have HTK := Lib.hid htk
 rw [htk] at hc0 hc1 hc2 hc3 hc4; have HK1 := Lib.hid hk1
 clear hk1 htk hag
 go_enter Tryz.func130, Tryz.ntmps130
 go_upto_region 1 with fail
 rw [HU.out]
 go_wp2_with (go_at_call 99; refine Stand.out ?_)
 refine Stand.mk ?_
 refine (nameT_st S0.out HK0.out HK1.out).mono ?_
 rw [HTK.out]
 rintro e u1 ⟨rfl, m1⟩
 have S1 := Lib.hid (S0.out.call m1)
 have B1r := Lib.hid (m1.blk B0r.out (by omega))
 have zz1 := Mv.size m1
 clear m1
 have HKN : Hid (k + 1 < L.length) := Lib.hid (HT.out.step HK0.out (by rw [HK1.out]; decide))
 go_wp2_with (go_at_call 103; refine Stand.out ?_)
 refine Stand.mk ?_
 refine (skip_t S1.out HKN.out hpn).mono ?_
 rintro e u2 ⟨rfl, m2⟩
 have S2 := Lib.hid (S1.out.call m2)
 have B2r := Lib.hid (m2.blk B1r.out (by omega))
 have zz2 := Mv.size m2
 clear m2
 have HK2 := Lib.hid (HT.out.next HKN.out hpn (by decide))
 have RX := X0.out
 rw [HTK.out] at RX
 have X0 := Lib.hid RX
 clear RX
 go_wp2_with (go_at_call 131; refine Stand.out ?_)
 refine Stand.mk ?_
 refine ((HR.list f (Nat.le_refl _) [41] (by decide)).go2 S2.out HT.out HK2.out X0.out).mono ?_
 rintro e u3 (⟨p9, r9, rfl, rfl, f9⟩ | ⟨v3, k3, val3, q3, l3, x3, rfl, ⟨T3, xa3, xc3, rfl, hT3, hX3, hs3⟩, m3⟩)
 ·go_wp2_with fail
  exact ⟨rfl, f9⟩
 have X3 := Lib.hid x3
 have HK3 := Lib.hid l3
 clear x3 l3
 have S3 := Lib.hid (S2.out.call m3)
 have B3r := Lib.hid (m3.blk B2r.out (by omega))
 have zz3 := Mv.size m3
 clear m3
 have V3y := Lib.hid hX3
 have HS3 := Lib.hid hs3
 clear hX3 hs3
 have zb := B0r.out.lt
 obtain rfl := Option.some.inj X3.out
 obtain ⟨yn, hyn⟩ := nam v3.exs.length
 rw [hyn]
 have HX9 := Lib.hid (show HX T3 u3 [.int .i64 13, .string (strOf tk.t), .int .i64 0, .bool false, .int .i64 0, .string ⟨#[]⟩, .slice none 0 0, .slice none 0 0, .slice none 0 0, .slice xa3 yn xc3] (mE 13 (strOf tk.t) v3.exs) from by rw [← hyn]; exact hx_args (by unfold in64; omega) HS3.out V3y.out)
 have hgs : w.heap.size < u2.heap.size := B2r.out.lt
 clear hyn
 have hTh := block_there B3r.out 0 10 (Nat.le_refl 10)
 go_wp2_with (refine wpList_store_mid rfl 66 _ _ rfl w.heap.size 0 #[.int .i64 13, .string (strOf tk.t), .int .i64 0, .bool false, .int .i64 0, .string ⟨#[]⟩, .slice none 0 0, .slice none 0 0, .slice none 0 0, .slice xa3 yn xc3] rfl rfl hTh (by kernel_rfl) (by simp [Value.oneCell']) ?_)
 have B99 := B3r.out.setCells [.int .i64 13, .string (strOf tk.t), .int .i64 0, .bool false, .int .i64 0, .string ⟨#[]⟩, .slice none 0 0, .slice none 0 0, .slice none 0 0, .slice xa3 yn xc3] 0
 refine bodyPost_ret (results_cell_row (by rfl) _ _ w.heap.size 66 _ (0, 0) _ (by rfl) B99 Tryz.underlying66 rfl (by kernel_rfl)) rfl ?_
 exact ⟨k3, _, by omega, HK3.out, rfl, rfl, RtX.mk (HX9.out.sets 0 _ (fun h => absurd (hT3 _ h) (by omega))) (rfl) (fun b hb => by have := hT3 b hb; omega), (S3.out.sets (Nat.le_refl _) 0 _).mv⟩
end Go.Proofs.YteljlahcdipilaaGreat

/- Parts Q13, Q14, Q15 of this seat (pruned, scripts that are alike kept once as default arguments: q1, q2, ..). Conditions: each says its own. -/
import Derived.Test.YteljlahcdipilaaGreatG27
set_option linter.unusedSimpArgs false
set_option linter.unusedVariables false
set_option maxRecDepth 1000000
set_option maxHeartbeats 64000000
namespace Go.Proofs.YteljlahcdipilaaGreat
open Go.RowKit Go.Shelf
theorem ua (s : ByteArray) : eQ s <= 7 := by
 unfold eQ;have h : ∀ (b : Bool) (x y : Int), x <= 7 -> y <= 7 -> (if b = true then x else y) <= 7 := fun b x y h1 h2 => by cases b <;> assumption
 repeat (refine h _ _ _ (by decide) ?_)
 decide
theorem AD (t : am) : eL t <= 7 := by
 unfold eL
 split
 ·split
  ·decide
  ·have := ua (ai t.t);omega
 ·decide
theorem sz {t : am} (h : eL t ≠ 0) : t.k ≠ 6 := fun e => h (by unfold eL; rw [if_neg (by omega)])
theorem yT {bp : Nat} {a : Option Addr} {cap : Nat} {L : List (am × Nat)} {w u : World} {k : Nat} {x : Pr} (s : St bp a cap L w k u) (hT : Tk L) (hk : k < L.length) {S : Nat -> Prop} {t : Ex} {cs : List Value} (hX : HX S u cs t) (hp : ¬ S bp) (K : Ex -> List am -> O)
    (hx : (if cB fm (aA L k) = true then must (cB eD (aA L (k + 1))) (aA L (k + 1)) (K (mE 12 ⟨#[]⟩ [t])) else must (cB eD (aA L k)) (aA L k) (K (mE 11 ⟨#[]⟩ [t]))) = some x) :
    Calls Tryz.prog 115 #[.pointer (some ⟨bp, 0, none⟩), .agg cs.toArray] u fun e u' => og bp L w x e u' \/
      ∃ (op : Int) (k' : Nat) (ds : List Value) (g : Nat), k < k' /\ k' < L.length /\ K (mE op ⟨#[]⟩ [t]) (aA L k') = some x /\ e = .returned (.agg (List.toArray ds)) /\ HX (fun b => S b \/ b = g) u' ds (mE op ⟨#[]⟩ [t]) /\ u.heap.size <= g /\ Mv bp k' u u' :=
  (yS s hT hk hX hp).mono fun e u' h => h.elim (fun ⟨op, k', ds, g, h1, h2, h3, h4, h5, h6, h7⟩ => .inr ⟨op, k', ds, g, h2, h3, (h1 K).symm.trans hx, h4, h5, h6, h7⟩) (fun ⟨r, h1, h2⟩ => .inl (og.of s ((h1 K).symm.trans hx) h2))
theorem wH {f : Nat} (HR : sy f) (least : Nat) (hl8 : least <= 8) (bp : Nat) (a : Option Addr) (cap : Nat) (L : List (am × Nat)) (k : Nat) (w : World) (x : Pr) (h : Ps bp a cap L k w) (hT : Tk L) (hk : k < L.length)  (hr : run (f + 1) (.expr least) (aA L k) = some x) :
    Calls Tryz.prog 97 #[.pointer (some ⟨bp, 0, none⟩), .int .i64 least] w (PR gA bp L k w x) := by
 have hr : Go.Proofs.YteljlahcdipilaaGreat.step (run f) (.expr least) (aA L k) = some x := hr;simp only [Go.Proofs.YteljlahcdipilaaGreat.step, cB, ar] at hr;have HT := aa hT;have HK0 := aa hk;have X0 := aa hr;have hbw := h.lt;obtain ⟨u0, hy0⟩ : ∃ u, w.alloc (.cells ad 66) = u := ⟨_, rfl⟩;have s0 : St bp a cap L w k u0 := by rw [<- hy0]; exact (St.start h).alloc _
 have b0 : ae u0 w.heap.size zX 66 := by rw [<- hy0]; exact ae.new w _ _
 have B0r := aa b0;clear b0;have S0 := aa s0;have HU := aa hy0;clear s0 hy0 h hT hk hr;obtain ⟨nb, hnb⟩ := nam (decide (least <= 4 /\ ck 2 fm (aA L k) = true));have HNB := aa hnb;clear hnb;go_enter Tryz.func97, Tryz.ntmps97;go_upto_region 1 with fail;rw [HU.out];go_cut [5] (fun v wx => v = .bool nb /\ Hid (St bp a cap L w k wx /\ ae wx w.heap.size zX 66));case first =>
  have z897372a := trivial;exact Sq897372
 case rest =>
  obtain ⟨rfl, hc⟩ := hcut;have S1 := aa hc.out.1;have B1r := aa hc.out.2;clear hc S0 B0r HU;go_wp2_with (go_at_call 113; refine af.out ?_);refine af.mk ?_;refine ((HR.unary f (Nat.le_refl _) least hl8).go2 S1.out HT.out HK0.out X0.out).mono ?_;rintro e u2 (⟨p9, r9, rfl, rfl, f9⟩ | ⟨v2, k2, val2, q2, l2, x2, rfl, ⟨T2, ds2, rfl, hT2, hX2⟩, m2⟩)
  ·go_wp2_with fail;exact ⟨rfl, f9⟩
  have X2 := aa x2;have HK2 := aa l2;clear x2 l2;have S2 := aa (S1.out.call m2);have B2r := aa (m2.blk B1r.out (by omega));have zz2 := Mv.size m2;clear m2;obtain ⟨m0, hm0⟩ : ∃ m : Nat, (if nb = true then 3 else 9) = m := ⟨_, rfl⟩;have HM0 := aa hm0;clear hm0;have Xm : Hid (run f (.loop least m0 v2.ex) (aA L k2) = some x) := aa (by rw [<- HM0.out]; have h := X2.out; have e := HNB.out; cases nb with | true => have e2 := of_decide_eq_true e; simpa only [e2.1, e2.2, and_self, if_true] using h | false => have e2 := of_decide_eq_false e; simpa only [e2, if_false, Bool.false_eq_true] using h);obtain ⟨op2, nm2, vk2, vb2, vi2, vs2, la2, ln2, lc2, ka2, kn2, kc2, na2, nn2, nc2, xa2, xn2, xc2, -, -, rfl⟩ := hX2.ten;have V2x2 := aa hX2;clear hX2;have Nx2 := aa (show ¬ T2 bp from fun h => absurd (hT2 _ h) (by have := S1.out.size; omega));have zb := B1r.out.lt;have s9 : St bp a cap L w k2 (u2.alloc (.cells ad 66)) := S2.out.alloc _;have hTh := ah (ae.new u2 zX 66) 0 10 (by decide);go_upto_region 3 with (refine wpList_store_mid rfl 66 _ _ rfl u2.heap.size 0 #[.int .i64 op2, .string nm2, .int .i64 vk2, .bool vb2, .int .i64 vi2, .string vs2, .slice la2 ln2 lc2, .slice ka2 kn2 kc2, .slice na2 nn2 nc2, .slice xa2 xn2 xc2] rfl rfl hTh (by kernel_rfl) (by simp [Value.oneCell']) ?_);obtain ⟨b5, hb5⟩ := nam u2.heap.size;rw [hb5];obtain ⟨u3, hu3⟩ : ∃ u, (u2.alloc (.cells ad 66)).setCells b5 0 ((#[.int .i64 op2, .string nm2, .int .i64 vk2, .bool vb2, .int .i64 vi2, .string vs2, .slice la2 ln2 lc2, .slice ka2 kn2 kc2, .slice na2 nn2 nc2, .slice xa2 xn2 xc2] : Array Value).toList) = u := ⟨_, rfl⟩;have hP0 : Hid (rj bp a cap L w x f b5 k (fun e => .loop least m0 e) f k2 T2 [.int .i64 op2, .string nm2, .int .i64 vk2, .bool vb2, .int .i64 vi2, .string vs2, .slice la2 ln2 lc2, .slice ka2 kn2 kc2, .slice na2 nn2 nc2, .slice xa2 xn2 xc2] v2.ex u3) := aa (by rw [<- hu3, <- hb5]; exact ⟨s9.sets (by omega) 0 _, HK2.out, q2, ((B2r.out.alloc _).of_heap (ak (by omega) _ 0 _)), (ae.new u2 zX 66).setCells [.int .i64 op2, .string nm2, .int .i64 vk2, .bool vb2, .int .i64 vi2, .string vs2, .slice la2 ln2 lc2, .slice ka2 kn2 kc2, .slice na2 nn2 nc2, .slice xa2 xn2 xc2] 0, (V2x2.out.alloc _).sets 0 _ (fun h => absurd (V2x2.out.1 _ h) (by omega)), fun b h => ⟨by have := hT2 b h; omega, by have := V2x2.out.1 b h; omega⟩, by omega, Nat.le_refl _, Xm.out⟩);rw [hu3];clear hu3 hb5 V2x2 B2r S2 X2 Xm HK2 s9 hTh S1 B1r X0 hr HK0 hT2 Nx2
  go_frame
  go_upto_if 20 with fail;go_cut [7] (fun v wx => v = .int .i64 m0 /\ u3 = wx);case first => cases nb <;> (go_wp2_with fail; go_meet; exact ⟨by rw [<- HM0.out]; rfl, rfl⟩)
  case rest =>
   obtain ⟨rfl, rfl⟩ := hcut;go_wp2_with fail
   go_loopg [7] f (fun g mv wr => ∃ (most kk : Nat) (S : Nat -> Prop) (cs : List Value) (t : Ex), mv = .int .i64 most /\ Hid (rj bp a cap L w x f b5 k (fun e => .loop least most e) g kk S cs t wr))
   case atStart => exact ⟨m0, k2, T2, _, _, rfl, hP0⟩
   case round =>
    clear hP0 HM0;obtain ⟨most, k0, S, cs, t, rfl, hP⟩ := hrel;have hP := hP.out;obtain ⟨op, nm, vk, vb, vi, vs, la, ln, lc, ka, kn, kc, na, nn, nc, xa, xn, xc, hop, -, rfl⟩ := hP.hx.ten;cases gk with
    | zero => exact absurd hP.rn (by intro h; cases h)
    | succ g =>
     have rn : Go.Proofs.YteljlahcdipilaaGreat.step (run g) (.loop least most t) (aA L k0) = some x := hP.rn;simp only [Go.Proofs.YteljlahcdipilaaGreat.step, cB, ar] at rn;have S10 := aa hP.st;have B10r := aa hP.r4;have B10b := aa hP.r5;have V10t := aa hP.hx;have Nt := aa (show ¬ S bp from fun h => absurd (hP.hs bp h).1 (by omega));have HK10 := aa hP.lt;have h5 := hP.h5;have zb5 := hP.r5.lt;have hge := hP.ge;have HS := aa hP.hs;have hgf := hP.le;have RN := aa rn;have HOP := aa hop;clear hP rn hop;obtain ⟨tk, htk⟩ := nam (nx (aA L k0));have HTK := aa htk;obtain ⟨pw, hpw⟩ := nam (eL tk);have HPW := aa hpw;obtain ⟨rt, hrt⟩ := nam (Bp tk);have HRT := aa hrt;have CP := wE S10.out HK10.out;rw [htk, hpw, hrt] at CP;have RM := RN.out;rw [htk, hpw] at RM;replace RN := aa RM;have hpw7 : pw <= 7 := by rw [<- hpw]; exact AD _
     clear RM hpw hrt htk;have CP := aa CP;go_wp2_with (go_at_call 114; refine af.out ?_);refine af.mk ?_;refine CP.out.mono ?_;rintro e u11 ⟨rfl, m11⟩;clear CP;have S11 := aa (S10.out.call m11);have B11r := aa (m11.blk B10r.out (by omega));have B11b := aa (m11.blk B10b.out (by omega));have V11t := aa (V10t.out.mv m11 Nt.out);have zz11 := Mv.size m11;clear m11;obtain ⟨bx, hbx⟩ := nam (decide (pw < least \/ pw = 0 \/ most < pw));have HBX := aa hbx;clear hbx;go_upto_region 7 with fail;go_cut [37] (fun v wx => v = .bool bx /\ u11 = wx);case first =>
      by_cases c1 : pw < least
      ·have c1i : (pw : Int) < least := by omega
       go_wp2_with fail;go_meet;exact ⟨by rw [<- HBX.out, decide_eq_true (.inl c1)], rfl⟩
      ·have c1i : ¬ (pw : Int) < least := by omega
       by_cases c2 : pw = 0
       ·subst c2;go_wp2_with fail;go_meet;exact ⟨by rw [<- HBX.out]; simp, rfl⟩
       ·have c2i : ((pw : Int) == 0) = false := by simp; omega
        by_cases c3 : most < pw
        ·have c3i : (most : Int) < pw := by omega
         go_wp2_with fail;go_meet;exact ⟨by rw [<- HBX.out, decide_eq_true (.inr (.inr c3))], rfl⟩
        ·have c3i : ¬ (most : Int) < pw := by omega
         go_wp2_with fail;go_meet;exact ⟨by rw [<- HBX.out, decide_eq_false (by rintro (h | h | h) <;> contradiction)], rfl⟩
     case rest =>
      obtain ⟨rfl, rfl⟩ := hcut;cases bx with
      | true =>
       have hc := of_decide_eq_true HBX.out;have RX := aa RN.out;simp only [hc, if_true] at RX;clear hc;obtain rfl := Option.some.inj RX.out;obtain ⟨e0, e1, e2, e3, e4, e5, e6, e7, e8, e9⟩ := ae.ten B11b.out;have hTh := ah B11r.out 0 10 (Nat.le_refl 10);go_wp2_with (refine wpList_store_mid rfl 66 _ _ rfl w.heap.size 0 #[.int .i64 op, .string nm, .int .i64 vk, .bool vb, .int .i64 vi, .string vs, .slice la ln lc, .slice ka kn kc, .slice na nn nc, .slice xa xn xc] rfl rfl hTh (by kernel_rfl) (by simp [Value.oneCell']) ?_);have B99 := B11r.out.setCells [.int .i64 op, .string nm, .int .i64 vk, .bool vb, .int .i64 vi, .string vs, .slice la ln lc, .slice ka kn kc, .slice na nn nc, .slice xa xn xc] 0;refine bodyPost_ret (results_cell_row (by rfl) _ _ w.heap.size 66 _ (0, 0) _ (by rfl) B99 Tryz.underlying66 rfl (by kernel_rfl)) rfl ?_;exact ⟨k0, _, hge, HK10.out, rfl, rfl, gA.mk (V11t.out.sets 0 _ (fun h => absurd (HS.out _ h).1 (by omega))) rfl (fun b h => by have := (HS.out b h).1; omega), (S11.out.sets (Nat.le_refl _) 0 _).mv⟩
      | false =>
       have hc := of_decide_eq_false HBX.out;have RX := aa RN.out;simp only [hc, if_false] at RX;have hp0 : pw ≠ 0 := fun e => hc (.inr (.inl e))
       have HKN : Hid (k0 + 1 < L.length) := aa (HT.out.step HK10.out (by rw [HTK.out]; exact sz (by rw [HPW.out]; exact hp0)));have hrt9 : rt = pw + 1 := by rw [<- HRT.out]; unfold Bp; rw [HPW.out, if_neg hp0]
       subst hrt9;clear hc RN;obtain ⟨m2, hm2⟩ : ∃ m : Nat, (if pw = 5 then 4 else pw) = m := ⟨_, rfl⟩;have HM2 := aa hm2;have RY := RX.out;rw [hm2] at RY;replace RX := aa RY;clear RY hm2;go_upto_if 40 with fail;go_cut [7] (fun v wx => v = .int .i64 m2 /\ u11 = wx);case first =>
        by_cases c5 : pw = 5
        ·subst c5;go_wp2_with fail;go_meet;exact ⟨by rw [<- HM2.out]; rfl, rfl⟩
        ·have c5i : ((pw : Int) == 5) = false := by simp; omega
         go_wp2_with fail;go_meet;exact ⟨by rw [<- HM2.out, if_neg c5], rfl⟩
       case rest =>
        obtain ⟨rfl, rfl⟩ := hcut;have CT := sw S11.out HK10.out;rw [HTK.out] at CT;have CT := aa CT;go_wp2_with (go_at_call 48; refine af.out ?_);refine af.mk ?_;refine CT.out.mono ?_;rintro e u12 ⟨tp, rfl, m12⟩;clear CT;have S12 := aa (S11.out.call m12);have B12r := aa (m12.blk B11r.out (by omega));have B12b := aa (m12.blk B11b.out (by omega));have V12t := aa (V11t.out.mv m12 Nt.out);have zz12 := Mv.size m12;clear m12;have hf1 : ∀ u, (Instr.field 31 (.agg #[.int .i64 tk.k, .string (ai tk.t), .int .i64 tk.n, .int .i64 tp]) 1).run Tryz.prog u = .ok (.string (ai tk.t)) u := fun _ => by kernel_rfl
        obtain ⟨bi, hbi⟩ := nam (decide (tk.t = BJ));have q2 : ((ai tk.t).toList == [73, 83]) = bi := by have h := jD tk.t BJ; rw [aE BJ, hbi] at h; exact h
        have HBI := aa hbi;clear hbi;cases bi with
        | true =>
         have ei := of_decide_eq_true HBI.out;have RY := RX.out;rw [if_pos ei] at RY;replace RX := aa RY;clear RY ei;have CN := aa (yT S12.out HT.out HKN.out V12t.out Nt.out (fun e l => run g (.loop least m2 e) l) RX.out);obtain ⟨e0, e1, e2, e3, e4, e5, e6, e7, e8, e9⟩ := ae.ten B12b.out;go_wp2_with (go_at_call 115; refine af.out ?_);refine af.mk ?_;refine CN.out.mono ?_;rintro e u13 (⟨p9, r9, rfl, rfl, f9⟩ | ⟨op13, k13, ds13, g13, q13, l13, x13, rfl, hX13, hg13, m13⟩)
         ·go_wp2_with fail;exact ⟨rfl, f9⟩
         have X13 := aa x13;have HK13 := aa l13;clear x13 l13 e0 e1 e2 e3 e4 e5 e6 e7 e8 e9 CN;have S13 := aa (S12.out.call m13);have B13r := aa (m13.blk B12r.out (by omega));have B13b := aa (m13.blk B12b.out (by omega));have V13t := aa (V12t.out.mv m13 Nt.out);have zz13 := Mv.size m13;clear m13;have z11 := B10b.out.lt;obtain ⟨opY, nmY, vkY, vbY, viY, vsY, laY, lnY, lcY, kaY, knY, kcY, naY, nnY, ncY, xaY, xnY, xcY, -, -, rfl⟩ := hX13.ten;have V13y := aa hX13;clear hX13;have hTh := ah B13b.out 0 10 (Nat.le_refl 10);go_wp2_with (refine wpList_store_mid rfl 66 _ _ rfl b5 0 #[.int .i64 opY, .string nmY, .int .i64 vkY, .bool vbY, .int .i64 viY, .string vsY, .slice laY lnY lcY, .slice kaY knY kcY, .slice naY nnY ncY, .slice xaY xnY xcY] rfl rfl hTh (by kernel_rfl) (by simp [Value.oneCell']) ?_);clear hTh;obtain ⟨u14, hu14⟩ : ∃ u, u13.setCells b5 0 ((#[.int .i64 opY, .string nmY, .int .i64 vkY, .bool vbY, .int .i64 viY, .string vsY, .slice laY lnY lcY, .slice kaY knY kcY, .slice naY nnY ncY, .slice xaY xnY xcY] : Array Value).toList) = u := ⟨_, rfl⟩;have S14 := aa (show St bp a cap L w k13 u14 from by rw [<- hu14]; exact S13.out.sets (by omega) 0 _);have zz14 : u14.heap.size = u13.heap.size := by rw [<- hu14]; exact aQ _ _ _
         have B14r := aa (B13r.out.of_heap (w' := u14) (by rw [<- hu14]; exact ak (by omega) _ 0 _));have B14b := aa (show ae u14 _ _ _ from by rw [<- hu14]; exact B13b.out.setCells [.int .i64 opY, .string nmY, .int .i64 vkY, .bool vbY, .int .i64 viY, .string vsY, .slice laY lnY lcY, .slice kaY knY kcY, .slice naY nnY ncY, .slice xaY xnY xcY] 0);have V14y := aa (V13y.out.same (w1 := u14) (fun b hb => by rw [<- hu14]; exact ak (fun e => by rcases hb with hb | hb; exact (HS.out b hb).2 e; omega) _ 0 _));rw [hu14];clear hu14;go_roundg g;case measure => omega
         case rel => exact ⟨m2, k13, (fun b => S b \/ b = g13), [.int .i64 opY, .string nmY, .int .i64 vkY, .bool vbY, .int .i64 viY, .string vsY, .slice laY lnY lcY, .slice kaY knY kcY, .slice naY nnY ncY, .slice xaY xnY xcY], mE op13 ⟨#[]⟩ [t], rfl, aa ⟨S14.out, HK13.out, by omega, B14r.out, B14b.out, V14y.out, fun b h => h.elim (HS.out b) (fun e => by omega), h5, by omega, X13.out⟩⟩
        | false =>
         have ei := of_decide_eq_false HBI.out;have RY := RX.out;rw [if_neg ei] at RY;replace RX := aa RY;clear RY ei;go_upto_region 15 with fail;obtain ⟨u13, hu13⟩ := nam u12.drew;have S13 := aa (show St bp a cap L w (k0 + 1) u13 from by rw [<- hu13]; exact S12.out.drew);have zz13 : u12.heap.size = u13.heap.size := by rw [<- hu13]; rfl
         have B13r := aa (B12r.out.of_heap (w' := u13) (by rw [<- hu13]; rfl));have B13b := aa (B12b.out.of_heap (w' := u13) (by rw [<- hu13]; rfl));have V13t := aa (V12t.out.same (w1 := u13) (fun _ _ => by rw [<- hu13]; rfl));refine aR (S := (fun w' : World => ae w' b5 [.int .i64 op, .string nm, .int .i64 vk, .bool vb, .int .i64 vi, .string vs, .slice la ln lc, .slice ka kn kc, .slice na nn nc, .slice xa xn xc] 66)) (fun j => j == 7) (by kernel_rfl) ?_;rw [hu13];clear hu13;have hHeld : ae u13 b5 [.int .i64 op, .string nm, .int .i64 vk, .bool vb, .int .i64 vi, .string vs, .slice la ln lc, .slice ka kn kc, .slice na nn nc, .slice xa xn xc] 66 := B13b.out;refine Jt 0 ?_;refine Jl 1 ?_ (hy := by refine Or.inl ⟨by rfl, ?_⟩; intro w8 hSw; obtain ⟨e0, e1, e2, e3, e4, e5, e6, e7, e8, e9⟩ := ae.ten hSw; clear hSw; go_simp; try with_reducible rfl);refine Jt 2 ?_;refine Jt 3 ?_;refine Jr 4 fun KK hKK => ?_
         go_simp;go_at_call 97;refine ((HR.expr g (by omega) (pw + 1) (by omega)).go2 S13.out HT.out HKN.out RX.out).mono ?_;rintro e u14 (⟨p9, r9, rfl, rfl, f9⟩ | ⟨v14, k14, val14, q14, l14, x14, rfl, ⟨T14, ds14, rfl, hT14, hX14⟩, m14⟩)
         ·exact ⟨rfl, f9⟩
         have X14 := aa x14;have HK14 := aa l14;clear x14 l14;have S14 := aa (S13.out.call m14);have B14r := aa (m14.blk B13r.out (by omega));have B14b := aa (m14.blk B13b.out (by omega));have V14t := aa (V13t.out.mv m14 Nt.out);have zz14 := Mv.size m14;clear m14;obtain ⟨op14, nm14, vk14, vb14, vi14, vs14, la14, ln14, lc14, ka14, kn14, kc14, na14, nn14, nc14, xa14, xn14, xc14, -, -, rfl⟩ := hX14.ten;have V14x14 := aa hX14;clear hX14;have Nx14 := aa (show ¬ T14 bp from fun h => absurd (hT14 _ h) (by have := S13.out.size; omega));refine hKK _ _ (fun _ _ => B14b.out) ?_;clear hKK KK hHeld;have hHeld := B14b.out;refine Jn ?_;refine Jr 5 fun KK hKK => ?_
         go_simp;obtain ⟨u15, hu15⟩ : ∃ u, u14.alloc (.cells #[.int .i64 op, .string nm, .int .i64 vk, .bool vb, .int .i64 vi, .string vs, .slice la ln lc, .slice ka kn kc, .slice na nn nc, .slice xa xn xc, .int .i64 op14, .string nm14, .int .i64 vk14, .bool vb14, .int .i64 vi14, .string vs14, .slice la14 ln14 lc14, .slice ka14 kn14 kc14, .slice na14 nn14 nc14, .slice xa14 xn14 xc14] 66) = u := ⟨_, rfl⟩;have S15 := aa (show St bp a cap L w k14 u15 from by rw [<- hu15]; exact S14.out.alloc _);have zz15 : u15.heap.size = u14.heap.size + 1 := by rw [<- hu15]; simp
         have B15r := aa (show ae u15 _ _ _ from by rw [<- hu15]; exact B14r.out.alloc _);have B15b := aa (show ae u15 _ _ _ from by rw [<- hu15]; exact B14b.out.alloc _);have V15t := aa (V14t.out.same (w1 := u15) (fun b hb => by rw [<- hu15]; exact Below.heap_alloc _ _ _ (V14t.out.1 b hb)));have V15x14 := aa (V14x14.out.same (w1 := u15) (fun b hb => by rw [<- hu15]; exact Below.heap_alloc _ _ _ (V14x14.out.1 b hb)));have B15g := aa (show ae u15 u14.heap.size [.int .i64 op, .string nm, .int .i64 vk, .bool vb, .int .i64 vi, .string vs, .slice la ln lc, .slice ka kn kc, .slice na nn nc, .slice xa xn xc, .int .i64 op14, .string nm14, .int .i64 vk14, .bool vb14, .int .i64 vi14, .string vs14, .slice la14 ln14 lc14, .slice ka14 kn14 kc14, .slice na14 nn14 nc14, .slice xa14 xn14 xc14] 66 from by rw [<- hu15]; exact ae.new u14 _ _);rw [hu15];clear hu15;refine hKK _ _ (fun _ _ => B15b.out) ?_;clear hKK KK hHeld;have hHeld := B15b.out;refine Jn ?_;refine Jt 6 ?_;refine Jr 7 fun KK hKK => ?_
         have hTh := ah B15b.out 0 10 (Nat.le_refl 10);refine cd (by rfl) 66 _ _ (by rfl) b5 0 #[.int .i64 10, .string (ai tk.t), .int .i64 0, .bool false, .int .i64 0, .string ⟨#[]⟩, .slice none 0 0, .slice none 0 0, .slice none 0 0, .slice (some ⟨u14.heap.size, 0, none⟩) 2 2] (by rfl) (by rfl) hTh (by kernel_rfl) (by simp [Value.oneCell']) ?_;obtain ⟨u16, hu16⟩ : ∃ u, u15.setCells b5 0 ((#[.int .i64 10, .string (ai tk.t), .int .i64 0, .bool false, .int .i64 0, .string ⟨#[]⟩, .slice none 0 0, .slice none 0 0, .slice none 0 0, .slice (some ⟨u14.heap.size, 0, none⟩) 2 2] : Array Value).toList) = u := ⟨_, rfl⟩;have S16 := aa (show St bp a cap L w k14 u16 from by rw [<- hu16]; exact S15.out.sets (by omega) 0 _);have zz16 : u16.heap.size = u15.heap.size := by rw [<- hu16]; exact aQ _ _ _
         have B16r := aa (B15r.out.of_heap (w' := u16) (by rw [<- hu16]; exact ak (by omega) _ 0 _));have B16b := aa (show ae u16 _ _ _ from by rw [<- hu16]; exact B15b.out.setCells [.int .i64 10, .string (ai tk.t), .int .i64 0, .bool false, .int .i64 0, .string ⟨#[]⟩, .slice none 0 0, .slice none 0 0, .slice none 0 0, .slice (some ⟨u14.heap.size, 0, none⟩) 2 2] 0);have B16g := aa (B15g.out.of_heap (w' := u16) (by rw [<- hu16]; exact ak (by omega) _ 0 _));have V16t := aa (V15t.out.same (w1 := u16) (fun b hb => by rw [<- hu16]; exact ak (fun e => (HS.out b hb).2 (by rw [<- e])) _ 0 _));have V16x14 := aa (V15x14.out.same (w1 := u16) (fun b hb => by rw [<- hu16]; exact ak (fun e => by have := hT14 b hb; omega) _ 0 _));rw [hu16];clear hu16;refine hKK _ _ (fun h => absurd h (by decide)) ?_;clear hKK KK hHeld hTh;refine Jn ?_;refine aK (by kernel_rfl) ?_ _;go_wp2_with fail;go_roundg g;case measure => omega
         case rel => exact ⟨m2, k14, (fun b => (S b \/ T14 b) \/ b = u14.heap.size), [.int .i64 10, .string (ai tk.t), .int .i64 0, .bool false, .int .i64 0, .string ⟨#[]⟩, .slice none 0 0, .slice none 0 0, .slice none 0 0, .slice (some ⟨u14.heap.size, 0, none⟩) 2 2], mE 10 (ai tk.t) [t, v14.ex], rfl, aa ⟨S16.out, HK14.out, by omega, B16r.out, B16b.out, wF (g := u14.heap.size) (nm := ai tk.t) V16t.out V16x14.out B16g.out (by unfold bJ; omega) rfl rfl, fun b h => h.elim (fun h => h.elim (HS.out b) (fun h => by have := hT14 b h; omega)) (fun e => by omega), h5, by omega, X14.out⟩⟩
theorem fW.imp {α : Type} {R R' : List Value -> α -> Prop} {size : Nat} {css : List (List Value)} {l : List α} (h : fW R size css l) (hi : ∀ cs x, R cs x -> R' cs x) : fW R' size css l := by
 induction h with
 | nil => exact .nil
 | cons h hl hs ih => exact .cons (hi _ _ h) hl ih
theorem fW.snoc {α : Type} {R : List Value -> α -> Prop} {size : Nat} {css : List (List Value)} {l : List α} {cs : List Value} {x : α} (h : fW R size css l) (hx : R cs x) (hl : cs.length = size) : fW R size (css ++ [cs]) (l ++ [x]) := by
 induction h with
 | nil => exact .cons hx hl .nil
 | cons h hl hs ih => exact .cons h hl ih
structure dZ {α : Type} (R : World -> List Value -> α -> Prop) (ty : TypeId) (size : Nat) (B : Nat) (S : Nat -> Prop) (w : World) (lv : Value) (l : List α) : Prop where
  own : ∃ cl css, w.ownsRow B ty size lv l.length cl /\ cl = css.flatten /\ HG (fun w' => fW (R w') size css l) S w
  blk : ∀ b, S b -> B <= b /\ lv.ownBlock ≠ some b
section
variable {α : Type} {R : World -> List Value -> α -> Prop} {ty : TypeId} {size B : Nat} {S S2 : Nat -> Prop} {w w1 : World} {lv : Value} {l : List α}
theorem dZ.nil : dZ R ty size B (fun _ => False) w (.slice none 0 0) ([] : List α) :=
  ⟨⟨[], [], World.ownsRow_nil _ _ _ _, rfl, fun _ h => h.elim, fun _ _ => .nil⟩, fun _ h => h.elim⟩
theorem dZ.lt (h : dZ R ty size B S w lv l) {b : Nat} (hb : S b \/ lv.ownBlock = some b) : B <= b /\ b < w.heap.size := by
 obtain ⟨cl, css, h1, h2, h3⟩ := h.own;rcases hb with hb | hb
 ·exact ⟨(h.blk b hb).1, h3.1 b hb⟩
 ·exact h1.lt b hb
theorem dZ.same (h : dZ R ty size B S w lv l) (hk : ∀ b, (S b \/ lv.ownBlock = some b) -> w1.heap[b]? = w.heap[b]?) : dZ R ty size B S w1 lv l := by
 obtain ⟨cl, css, h1, h2, h3⟩ := h.own;exact ⟨⟨cl, css, dF h1 fun k e => hk k (.inr e), h2, h3.same fun b hb => hk b (.inl hb)⟩, h.blk⟩
theorem dZ.mv {bp k : Nat} (h : dZ R ty size B S w lv l) (hm : Mv bp k w w1) (hp : bp < B) : dZ R ty size B S w1 lv l :=
  h.same fun b hb => (Below.block hm b (h.lt hb).2).trans (Below.heap_setCell w ⟨bp, 1, none⟩ _ b (fun e => by have := (h.lt hb).1; have e : b = bp := e; omega))
theorem dZ.alloc (h : dZ R ty size B S w lv l) (o : Obj) : dZ R ty size B S (w.alloc o) lv l := h.same fun b hb => Below.heap_alloc _ _ _ (h.lt hb).2
theorem dZ.sets (h : dZ R ty size B S w lv l) {b : Nat} (o : Nat) (vs : List Value) (hb : ¬ (S b \/ lv.ownBlock = some b)) : dZ R ty size B S (w.setCells b o vs) lv l := h.same fun q hq => ak (fun e => hb (by rw [<- show q = b from e]; exact hq)) _ _ _
theorem dZ.fin (h : dZ R ty size B S w lv l) : ∃ S' xa xc, lv = .slice xa l.length xc /\ aZ xa l.length xc /\ (∀ b, S' b -> S b \/ lv.ownBlock = some b) /\ HG (fun w' => cg (R w') size w'.heap.size w' xa l) S' w := by
 obtain ⟨cl, css, ⟨h1, h2⟩, h3, h4⟩ := h.own;rcases h2 with ⟨rfl, h5⟩ | ⟨g, cap, cur, rfl, hb, hh, hn, hm, hs, ht⟩
 ·have hl : l = [] := List.eq_nil_of_length_eq_zero h5;subst hl;exact ⟨fun _ => False, none, 0, rfl, ⟨⟨Nat.le_refl _, by decide⟩, fun _ => rfl⟩, fun _ h => h.elim, fun _ h => h.elim, fun _ _ => ax⟩
 ·refine ⟨fun b => S b \/ b = g, some ⟨g, 0, none⟩, cap, rfl, ⟨⟨hn, by unfold maxLen at hm; omega⟩, fun e => by cases e⟩, fun b hq => hq.elim .inl (fun e => .inr (by rw [e]; rfl)), fun b hq => hq.elim (h4.1 b) (fun e => by rw [e]; exact (Array.getElem?_eq_some_iff.1 hh).1), fun w' hw => ?_⟩;have hA := h4.2 w' fun b hq => hw b (.inl hq)
  have hbl : ae w' g cur.toList ty := by
   have : ae w g cur.toList ty := by unfold ae; simpa using hh
   exact this.of_heap (hw g (.inr rfl))
  intro i x hx;obtain ⟨cs, g1, g2, g3⟩ := hA.get i x hx;refine ⟨g, 0, cs, rfl, hbl.lt, g2, fun j v hv => ?_, g3⟩;rw [Nat.zero_add];refine hbl.cell ?_;have h6 := iw css i j cs v hA.lens g1 hv;rw [<- h3, <- ht] at h6;rw [List.getElem?_take] at h6
  split at h6
  ·exact h6
  ·cases h6
theorem Sq838800 {P : Prop} (h : P := by
 first
 |(
  guard_hyp z838800a
  have hw : Region.wanted o (yielded ops a.tmps) = true := by simp [Region.wanted, hgd]
  rw [if_pos hw])
 | skip
 obtain ⟨i, hi, hz, hsize, hb2⟩ := info_parts hi;obtain ⟨cl, css, g1, g2, g3⟩ := h.own;have hnn : (l.length + 1) * bytes <= 140737488355328 := Nat.le_trans (Nat.mul_le_mul (show l.length + 1 <= 4098 by omega) hby) (by decide)
 first
 | (guard_hyp z838800b; refine wpList_append_lies _ hgd s x t ho B ty i z size bytes ht hi hz hsize hb2 hzs hsz lv l.length cl hs (dF g1 fun k e => Below.heap_alloc _ _ _ (g1.lt k e).2) ⟨u.heap.size, 0, none⟩ 1 1 cs hxv (by rw [hl, Nat.one_mul]) (by have := World.news_of_block (cs := cs.toArray) (t := ty) (fr := (0, 0)) (ae.new u cs ty); simpa using this) h1 (by decide) (by unfold maxLen; omega) hnn (by simp; omega) (u.heap.size + 1) (by simp) ?_)
 | (refine wp_append_lies _ s x t ho B ty i z size bytes ht hi hz hsize hb2 hzs hsz lv l.length cl hs (dF g1 fun k e => Below.heap_alloc _ _ _ (g1.lt k e).2) ⟨u.heap.size, 0, none⟩ 1 1 cs hxv (by rw [hl, Nat.one_mul]) (by have := World.news_of_block (cs := cs.toArray) (t := ty) (fr := (0, 0)) (ae.new u cs ty); simpa using this) h1 (by decide) (by unfold maxLen; omega) hnn (by simp; omega) (u.heap.size + 1) (by simp) ?_)
 intro g cap w' k1 k2 k3 k4;have hk : ∀ b, b < u.heap.size -> lv.ownBlock ≠ some b -> w'.heap[b]? = u.heap[b]? := fun b hb hne => by
  rw [k2.block b (by simp; omega) (fun e => hne e.symm)];exact Below.heap_alloc _ _ _ hb
 refine hK _ _ ⟨⟨cl ++ cs, css ++ [cs], by simpa using k1, by simp [g2], ⟨fun b hb => ?_, fun w2 hw => (g3.2 w2 fun b hb => ?_).snoc (hx.2 w2 fun b hb => ?_) hl⟩⟩, fun b hb => ?_⟩ k2 (fun b e => (g1.lt b e).1) (fun b e => ?_)
 ·have hz2 : u.heap.size + 1 <= w'.heap.size := by have := k2.size; simpa using this
  rcases hb with hb | hb
  ·have := g3.1 b hb; omega
  ·have := hx.1 b hb; omega
 ·exact (hw b (.inl hb)).trans (hk b (g3.1 b hb) (h.blk b hb).2)
 ·exact (hw b (.inr hb)).trans (hk b (hx.1 b hb) (hS2 b hb).2)
 ·have e2 : ∀ q, (Value.slice (some ⟨g, 0, none⟩) (l.length + 1) cap).ownBlock = some q -> q = g := fun q e => (Option.some.inj e).symm
  rcases hb with hb | hb
  ·refine ⟨(h.blk b hb).1, fun e => ?_⟩;rcases k3 with k3 | k3
   ·exact (h.blk b hb).2 (by rw [k3, e2 b e])
   ·have := g3.1 b hb; have := e2 b e; omega
  ·refine ⟨(hS2 b hb).1, fun e => ?_⟩;rcases k3 with k3 | k3
   ·exact (hS2 b hb).2 (by rw [k3, e2 b e])
   ·have := hx.1 b hb; have := e2 b e; omega
 ·have e2 : b = g := (Option.some.inj e).symm;rcases k3 with k3 | k3
  ·exact .inl (by rw [k3, e2])
  ·exact .inr (by rw [e2, k3])) : P := h
theorem cz {P : Program} {ops : Array Oper} {rest : List Oper} {o : Oper} {a : Act} {Q : Exit -> Act -> World -> Prop} {u : World} (hgd : o.guard = none) (s x : Operand) (t : TypeId)
    (ho : o.op = .call { callee := .builtin .append, args := #[s, x], argTypes := #[t, t] }) {z : Value} {bytes : Nat} (ht : P.underlying t = some (.slice ty)) (hi : (P.info? ty).map (fun i => (i.zero, i.size, i.bytes)) = some (some z, size, bytes))
    (hzs : z.cells.size = size) (hsz : 0 < size) (hby : bytes <= 4294967296) {cs : List Value} {y : α} (h : dZ R ty size B S u lv l) (hx : HG (fun w' => R w' cs y) S2 u) (hl : cs.length = size) (hS2 : ∀ b, S2 b -> B <= b /\ lv.ownBlock ≠ some b)
    (hs : a.eval s = lv) (hxv : a.eval x = .slice (some ⟨u.heap.size, 0, none⟩) 1 1) (h1 : ∀ v ∈ cs, v.oneCell' = true) (hn : l.length <= 4097) (hB : B <= u.heap.size)
    (hK : ∀ lv' u', dZ R ty size B (fun b => S b \/ S2 b) u' lv' (l ++ [y]) -> (u.alloc (.cells cs.toArray ty)).grownBy u' lv.ownBlock -> (∀ b, lv.ownBlock = some b -> B <= b) -> (∀ b, lv'.ownBlock = some b -> lv.ownBlock = some b \/ b = u.heap.size + 1) -> wpList P ops Q rest (a.put o.dst lv') u') :
    wpList P ops Q (o :: rest) a (u.alloc (.cells cs.toArray ty)) := by
 have z838800b := trivial;exact Sq838800
end
def RS (_ : World) (cs : List Value) (x : ByteArray) : Prop := cs = [.string x]
def RX (w : World) (cs : List Value) (x : Ex) : Prop := bK w.heap.size w cs x
theorem lf {B : Nat} {w : World} {a : Option Addr} {l : List ByteArray} (h : cg (RS w) 1 B w a l) : co B w a l := by
 unfold co;cases l with
 | nil => exact .inl rfl
 | cons y r =>
  obtain ⟨b, off, cs, rfl, hb, -, -, -⟩ := h 0 y rfl;refine .inr ⟨b, off, rfl, hb, fun i v hv => ?_⟩;rw [List.getElem?_map] at hv;obtain ⟨x, hx, rfl⟩ := Option.map_eq_some_iff.1 hv;obtain ⟨b2, off2, cs2, e2, h2, h3, h4, h5⟩ := h i x hx;injection e2 with e2
  injection e2 with e3 e4
  subst e3 e4;have h5 : cs2 = [.string x] := h5;subst h5;have := h4 0 _ rfl;simpa using this
theorem Tryz.infoX : (Tryz.prog.info? 66).map (fun i => (i.zero, i.size, i.bytes)) = some (some (.agg zX.toArray), 10, 160) := by kernel_rfl
structure yU (bp : Nat) (a : Option Addr) (cap : Nat) (L : List (am × Nat)) (w : World) (x : Pr) (f kb : Nat) (stop : List UInt8) (g k : Nat) (S : Nat -> Prop) (lv : Value) (l : List Ex) (u : World) : Prop where
  st : St bp a cap L w k u
  lt : k < L.length
  ln : l.length + kb <= k
  row : dZ RX 66 10 w.heap.size S u lv l
  le : g <= f
  rn : run g (.items stop l) (aA L k) = some x
theorem wI {f : Nat} (HR : sy f) (stop : List UInt8) (bp : Nat) (a : Option Addr) (cap : Nat) (L : List (am × Nat)) (k : Nat) (w : World) (x : Pr) (h : Ps bp a cap L k w) (hT : Tk L) (hk : k < L.length)  (hr : run (f + 1) (.list stop) (aA L k) = some x) :
    Calls Tryz.prog 131 #[.pointer (some ⟨bp, 0, none⟩), .string (ai stop)] w (PR BK bp L k w x) := by
 have hr : Go.Proofs.YteljlahcdipilaaGreat.step (run f) (.list stop) (aA L k) = some x := hr;simp only [Go.Proofs.YteljlahcdipilaaGreat.step, ar] at hr;have HT := aa hT;have HK0 := aa hk;have X0 := aa hr;have hbw := h.lt;have S0 := aa (St.start h);clear h hT hk hr;cases h0 : ck 5 stop (aA L k) with
 | true =>
  have RX := aa X0.out;simp only [h0, if_true] at RX;obtain rfl := Option.some.inj RX.out;go_enter Tryz.func131, Tryz.ntmps131;go_wp2_with (go_at_call 103; refine af.out ?_);refine af.mk ?_;refine (cp S0.out HK0.out h0).mono ?_;rintro e u1 ⟨rfl, m1⟩;have S1 := aa (S0.out.call m1);have zz1 := Mv.size m1;clear m1;have HK1 := aa (HT.out.next HK0.out h0 (by decide));go_wp2_with fail;go_ret;exact ⟨k + 1, _, by omega, HK1.out, rfl, rfl, ⟨fun _ => False, none, 0, rfl, fun _ h => h.elim, ⟨fun _ h => h.elim, fun _ _ => ax⟩, al⟩, S1.out.mv⟩
 | false =>
  have RX := aa X0.out;simp only [h0, if_false, Bool.false_eq_true] at RX;go_enter Tryz.func131, Tryz.ntmps131;go_wp2_with (go_at_call 103; refine af.out ?_);refine af.mk ?_;refine (cq S0.out HK0.out h0).mono ?_;rintro e u1 ⟨rfl, m1⟩;have S1 := aa (S0.out.call m1);have zz1 := Mv.size m1;clear m1;go_wp2_with fail
  go_loopg [5] f (fun g lv wr => ∃ (k0 : Nat) (S : Nat -> Prop) (l : List Ex), Hid (yU bp a cap L w x f k stop g k0 S lv l wr))
  case atStart => exact ⟨k, _, [], aa ⟨S1.out, HK0.out, by simp, dZ.nil, Nat.le_refl _, RX.out⟩⟩
  case round =>
   clear S1 RX X0 S0 HK0;obtain ⟨k0, S, l, hP⟩ := hrel;have hP := hP.out;cases gk with
   | zero => exact absurd hP.rn (by intro h; cases h)
   | succ g =>
    have rn : Go.Proofs.YteljlahcdipilaaGreat.step (run g) (.items stop l) (aA L k0) = some x := hP.rn;simp only [Go.Proofs.YteljlahcdipilaaGreat.step, aL, ar] at rn;have S10 := aa hP.st;have R10a := aa hP.row;have HK10 := aa hP.lt;have hln := hP.ln;have hll := hP.lt;have hL := hP.st.ln;have hgf := hP.le;have RN := aa rn;clear hP rn;go_wp2_with (go_at_call 97; refine af.out ?_);refine af.mk ?_;refine ((HR.expr g (by omega) 1 (by decide)).go2 S10.out HT.out HK10.out RN.out).mono ?_;rintro e u11 (⟨p9, r9, rfl, rfl, f9⟩ | ⟨v11, k11, val11, q11, l11, x11, rfl, ⟨T11, ds11, rfl, hT11, hX11⟩, m11⟩)
    ·go_wp2_with fail;exact ⟨rfl, f9⟩
    have X11 := aa x11;have HK11 := aa l11;clear x11 l11;have S11 := aa (S10.out.call m11);have R11a := aa (R10a.out.mv m11 hbw);have zz11 := Mv.size m11;clear m11;obtain ⟨op, nm, vk, vb, vi, vs, la, ln, lc, ka, kn, kc, na, nn, nc, xa, xn, xc, -, -, rfl⟩ := hX11.ten;have V11t := aa hX11;go_wp2_with (at_builtin; refine cz (R := RX) rfl _ _ 60 rfl Tryz.underlying60 Tryz.infoX rfl (by decide) (by decide) R11a.out V11t.out rfl (fun b hb => ⟨Nat.le_trans S10.out.size (hT11 b hb), fun e => absurd (hT11 b hb) (by have := (R10a.out.lt (.inr e)).2; omega)⟩) rfl rfl (by simp [Value.oneCell']) (by omega) S11.out.size ?_);intro lv12 u12 hR12 hg12 ho12 hp12;have S12 := aa ((S11.out.alloc _).grown hg12 ho12);have R12a := aa hR12;have zz12 : u11.heap.size + 1 <= u12.heap.size := by have := hg12.size; simpa using this
    clear hR12 hg12 ho12 hp12 hX11 R11a V11t R10a S10 S11;cases h44 : ck 5 [44] (aA L k11) with
    | true =>
     have RY := aa X11.out;simp only [h44, if_true, ar] at RY;go_wp2_with (go_at_call 103; refine af.out ?_);refine af.mk ?_;refine (cp S12.out HK11.out h44).mono ?_;rintro e u13 ⟨rfl, m13⟩;have S13 := aa (S12.out.call m13);have R13a := aa (R12a.out.mv m13 hbw);have zz13 := Mv.size m13;clear m13;have HK13 := aa (HT.out.next HK11.out h44 (by decide));go_wp2_with fail;go_roundg g;case measure => omega
     case rel => exact ⟨k11 + 1, _, l ++ [v11.ex], aa ⟨S13.out, HK13.out, by simp; omega, R13a.out, by omega, RY.out⟩⟩
    | false =>
     have RY := aa X11.out;simp only [h44, if_false, Bool.false_eq_true] at RY;go_wp2_with (go_at_call 103; refine af.out ?_);refine af.mk ?_;refine (cq S12.out HK11.out h44).mono ?_;rintro e u13 ⟨rfl, m13⟩;have S13 := aa (S12.out.call m13);have R13a := aa (R12a.out.mv m13 hbw);have zz13 := Mv.size m13;clear m13;go_wp2_with (go_at_call 118; refine af.out ?_);refine af.mk ?_;refine (bu S13.out HT.out HK11.out RY.out).mono ?_;rintro e u14 (⟨p9, r9, rfl, rfl, f9⟩ | ⟨l14, x14, rfl, m14⟩)
     ·go_wp2_with fail;exact ⟨rfl, f9⟩
     have X14 := aa x14;have HK14 := aa l14;clear x14 l14;have S14 := aa (S13.out.call m14);have R14a := aa (R13a.out.mv m14 hbw);have zz14 := Mv.size m14;clear m14;obtain rfl := Option.some.inj X14.out;obtain ⟨S9, xa, xc, rfl, hsl, hS9, hR9⟩ := R14a.out.fin;go_wp2_with fail;go_ret;exact ⟨k11 + 1, _, by omega, HK14.out, rfl, rfl, ⟨S9, xa, xc, by simp [V.exs], fun b hb => (R14a.out.lt (hS9 b hb)).1, hR9, hsl⟩, S14.out.mv⟩
end Go.Proofs.YteljlahcdipilaaGreat

/- Parts Q88, Q89 of this seat (pruned, scripts that are alike kept once as default arguments: q1, q2, ..). Conditions: each says its own. -/
import Derived.Test.YteljlahcdipilaaGreatG47
set_option linter.unusedSimpArgs false
set_option linter.unusedVariables false
set_option maxRecDepth 1000000
set_option maxHeartbeats 64000000
namespace Go.Proofs.YteljlahcdipilaaGreat
open Go.RowKit Go.Shelf
noncomputable def lC : Pr -> Int × vC
  | .bad _ => (1, ⟨[]⟩)
  | .ok v _ => if eI ⟨v.clauses⟩ then (0, ⟨v.clauses⟩) else (8, ⟨[]⟩)
def B8 (o : Int × vC) (w : World) (e : Ending) (w' : World) : Prop := Below w.heap.size w w' /\ ∃ a n c p S, e = .returned (.tuple #[.agg #[.slice a n c], .int .i64 p, .int .i64 o.1]) /\ HG (fun u => AI u [.slice a n c] o.2) S w'
def uB (m : Int) : Nat := (IntKind.u64.wrap m % 4).toNat
def xU (ms : List Int) (i : Nat) : Nat := match ms[i]? with | some m => uB m | none => 0
theorem zQ (m : Int) : uB m <= 3 := by unfold uB; omega
theorem Bl (ms : List Int) (i : Nat) : xU ms i <= 3 := by
 unfold xU;cases ms[i]? with
 | none => exact Nat.zero_le _
 | some m => exact zQ m
theorem xV (m : Int) : wrap64 ((IntKind.u64.wrap m).tmod 4) = (uB m : Int) := by
 have h : 0 <= IntKind.u64.wrap m := by unfold IntKind.wrap; simp [IntKind.signed, IntKind.bits]; omega
 unfold uB;rw [Int.tmod_eq_emod_of_nonneg h];unfold wrap64;omega
theorem rI (l x : List UInt8) (tk : Nat) : ai l ++ (⟨#[32, 10, 9, 13]⟩ : ByteArray).extract 0 tk ++ ⟨#[32]⟩ ++ ai x = ai (l ++ (jM tk ++ x)) := by
 apply ByteArray.ext;apply Array.toList_inj.1;simp [ai, jM, ByteArray.data_append, ByteArray.data_extract, List.append_assoc]
theorem Sq362658 {P : Prop} (h : P := by
 first
 |(
  guard_hyp z362658a
  have k2 : ((z.1.k : Int) == 2) = false := by simp; omega
  have HW : Hid (fO z.1 tk = dH z.1) := aa (by unfold fO; rw [if_neg (fun h => hk2 h.1)]))
 |(
  have h1' : ¬ (1 : Int) < (tk : Int) := by omega
  have HW : Hid (fO z.1 tk = dH z.1) := aa (by unfold fO; rw [if_neg (fun h => h1 h.2)]))
 clear hk2;go_wp2_with (go_at_call 9; refine af.out ?_);refine af.mk ?_;refine (HTX.out _).mono ?_;rintro e w5 ⟨rfl, hb5⟩;have z0' := (hb5.cell (p := ⟨g1, i * 4, none⟩) (by show g1 < _; exact hg1)).trans z0;have HB5 := aa (HBR.out.trans (hb5.mono HBR.out.size));clear hb5;go_wp2_with fail;go_roundw;case rel => exact ⟨i + 1, by go_num, by omega, by rw [HTS.out, <- HT1.out, <- HT0.out, <- HX.out, rI, HW.out], HB5⟩
 case measure => simp [intOf]; omega) : P := h
theorem rJ (s : ByteArray) (a1 : Option Addr) (n1 c1 : Nat) (ms : List Int) (w : World) (hs : s.size <= 1073741824) (hml : ms.length = n1) (HCe : da w.heap.size w a1 (ms.map (.int .i64)))
    (HP : ∀ (s' : ByteArray) (L : List (am × Nat)) (x : Pr) (w0 : World), Below w.heap.size w w0 -> s'.size <= 1099511627776 -> cv s'.data.toList = .ok L -> nM (.stmt []) (aA L 0) x -> Calls Tryz.prog 11 #[.string s'] w0 (B8 (lC x) w0))
    (HS : ∀ s' : ByteArray, s'.size <= 1099511627776 -> gy s' w)
    (HWt : ∀ (L : List (am × Nat)) (x : Pr), cv s.data.toList = .ok L -> nM (.stmt []) (aA L 0) x -> nu (lC x).2 <= 1099511627776)
    (HW : ∀ w0, Below w.heap.size w w0 -> Calls Tryz.prog 8 #[] w0 fun e w' => e = .returned (.bool true) /\ Below w0.heap.size w0 w') :
    Calls Tryz.prog 3 #[.string s, .slice a1 n1 c1] w fun e w' => e = .returned (.bool true) /\ Below w.heap.size w w' := by
 have CP := aa HP;have CW := aa HW;have CS := aa HS;have CT := aa HWt;have CE := aa HCe;clear HP HW HS HWt HCe;have hsc := CS.out s (by omega);unfold gy at hsc;cases hL : cv s.data.toList with
 | bad p0 x0 =>
  rw [hL] at hsc;obtain ⟨hx0, hsb⟩ := hsc;have SB := aa hsb;have n0 : (x0 != 0) = true := by simp [bne, hx0]
  clear hsb hL hx0;go_enter Tryz.func3, Tryz.ntmps3;go_wp2_with (go_at_call 7; refine af.out ?_);refine af.mk ?_;refine (SB.out w (Below.refl _ _)).mono ?_;rintro e u3 ⟨rfl, hb3⟩;have BE3 := aa hb3;clear hb3;go_wp2_with fail;refine (CW.out u3 BE3.out).mono ?_;rintro e u4 ⟨rfl, hb4⟩;go_wp2_with fail;go_ret;exact ⟨rfl, BE3.out.trans (hb4.mono BE3.out.size)⟩
 | ok L =>
  rw [hL] at hsc;obtain ⟨hso, -, -, hlen, -⟩ := hsc;have HL := aa hL;have HTL := aa (rH (xU ms) hL);have HSM := aa (lB hL);have HIN := aa (xT hL);obtain ⟨n, hn⟩ := nam L.length;have HN := aa hn;have HML := aa hml;have hlen' : n <= 4097 := by omega
  unfold nV at hso;rw [hn] at hso;have SO := aa hso;clear hso hL hn hlen hml;go_enter Tryz.func3, Tryz.ntmps3;go_wp2_with (go_at_call 7; refine af.out ?_);refine af.mk ?_;refine (SO.out w (Below.refl _ _)).mono ?_;rintro e u3 ⟨a, c, rfl, ho1, hb3⟩;have HO := aa ho1;have BE3 := aa hb3;clear hb3 ho1;go_wp2_with fail
  go_loopw [8, 9] (fun tv k wr => ∃ i : Nat, k = .int .i64 i /\ i <= n /\ tv = .string (ai (fG (xU ms) L i)) /\ Hid (Below u3.heap.size u3 wr)) (fun _ k _ => n - (intOf k).toNat)
  case atStart => exact ⟨0, rfl, Nat.zero_le _, rfl, aa (Below.refl _ _)⟩
  case round =>
   obtain ⟨i, rfl, hin, rfl, HBR⟩ := hrel;obtain ⟨wo, hwo⟩ : ∃ wo : World, wo = wr := ⟨_, rfl⟩;subst hwo
   by_cases hq : i < n
   ·have hq' : (i : Int) < n := by omega
    have hi0 : (0 : Int) <= (i : Int) := by omega
    obtain ⟨z, hz⟩ : ∃ z, L[i]? = some z := ⟨_, List.getElem?_eq_getElem (by rw [HN.out]; exact hq)⟩;obtain ⟨g1, e1, hv1, hg1, z0, z1, z2, z3⟩ := tI (tr HO.out HBR.out) hz;obtain ⟨rfl, rfl⟩ : a = some ⟨g1, 0, none⟩ /\ c = e1 := by injection hv1 with h _ k; exact ⟨h, k⟩
    have HTS := aa (jW (xU ms) hz);have hz1 := HSM.out z (List.mem_of_getElem? hz);have hz2 := HIN.out z (List.mem_of_getElem? hz);have hsz := HTL.out i (by rw [HN.out]; omega);obtain ⟨tk, htk⟩ := nam (xU ms i);have hmn : tk <= 3 := by rw [<- htk]; exact Bl ms i
    rw [htk] at HTS;have HMO := aa htk;clear hv1 htk hz;go_upto_if 36 with fail;go_cut [10] (fun v wx => v = .int .i64 tk /\ wo = wx);case first =>
     by_cases hmi : i < n1
     ·have hmi' : (i : Int) < n1 := by omega
      obtain ⟨m, hm⟩ : ∃ m, ms[i]? = some m := ⟨_, List.getElem?_eq_getElem (by rw [HML.out]; exact hmi)⟩;have hce := (CE.out.below (BE3.out.trans (HBR.out.mono BE3.out.size)) (Nat.le_refl _));rcases hce with hce | ⟨bm, om, rfl, hbm, hcm⟩
      ·exact absurd (congrArg List.length hce) (by rw [List.length_map, HML.out]; simp; omega)
      have hmc := hcm i (.int .i64 m) (by rw [List.getElem?_map, hm]; rfl);have hr : tk = uB m := by rw [<- HMO.out]; unfold xU; rw [hm]
      go_wp2_with fail;go_meet;exact ⟨by rw [xV, hr], rfl⟩
     ·have hmi' : ¬ (i : Int) < n1 := by omega
      have hr : tk = 0 := by rw [<- HMO.out]; unfold xU; rw [List.getElem?_eq_none (by rw [HML.out]; omega)]
      subst hr;go_wp2_with fail;go_meet;exact ⟨rfl, rfl⟩
    case rest =>
     obtain ⟨rfl, rfl⟩ := hcut;have hm0 : (0 : Int) <= (tk : Int) := by omega
     have hm4 : (tk : Int) <= 4 := by omega
     obtain ⟨T0, hT0⟩ := nam (ai (fG (xU ms) L i));rw [hT0];have hTs : T0.size <= 268537671 := by rw [<- hT0, aj]; omega
     obtain ⟨X, hX⟩ := nam (ai (dH z.1));have hXs : X.size <= 65538 := by rw [<- hX, aj]; exact hz1
     have HX := aa hX;have HT0 := aa hT0;have HTX := aa (fun u => tC z.1.k (ai z.1.t) z.1.n z.2 u hz2.1 (by rw [aj]; have := hz2.2; omega));rw [show ai (jc z.1.k (ai z.1.t).data.toList z.1.n) = X from by rw [<- hX]; simp [ai, dH]] at HTX;clear hin hX hT0 hsz hz1 hz2;go_upto_region 12 with fail;obtain ⟨T1, hT1⟩ : ∃ T, T0 ++ (⟨#[32, 10, 9, 13]⟩ : ByteArray).extract 0 tk ++ (⟨#[32]⟩ : ByteArray) = T := ⟨_, rfl⟩;rw [hT1];have hTs1 : T1.size <= 268537676 := by rw [<- hT1, ByteArray.size_append, ByteArray.size_append, ByteArray.size_extract]; have e1 : (⟨#[32, 10, 9, 13]⟩ : ByteArray).size = 4 := rfl; have e2 : (⟨#[32]⟩ : ByteArray).size = 1 := rfl; omega
     have HT1 := aa hT1;clear hT1 hTs
     by_cases hk2 : z.1.k = 2
     ·have k2 : ((z.1.k : Int) == 2) = true := by rw [hk2]; rfl
      by_cases h1 : 1 < tk
      ·have h1' : (1 : Int) < (tk : Int) := by omega
       have HW : Hid (fO z.1 tk = cr (dH z.1)) := aa (by unfold fO; rw [if_pos ⟨hk2, h1⟩]);obtain ⟨Y, hY⟩ := nam (ai (cr (dH z.1)));have HLO := aa (fun u => uz X u (by omega));rw [<- HX.out, kM, hY, HX.out] at HLO;have HY := aa hY;have hYs : Y.size <= 65538 := by rw [<- hY, aj, lA]; have := congrArg ByteArray.size HX.out; rw [aj] at this; omega
       clear hk2 hY;go_wp2_with (go_at_call 9; refine af.out ?_);refine af.mk ?_;refine (HTX.out _).mono ?_;rintro e w5 ⟨rfl, hb5⟩;have z0' := (hb5.cell (p := ⟨g1, i * 4, none⟩) (by show g1 < _; exact hg1)).trans z0;have HB5 := aa (HBR.out.trans (hb5.mono HBR.out.size));clear hb5;go_wp2_with (go_at_call 10; refine af.out ?_);refine af.mk ?_;refine (HLO.out _).mono ?_;rintro e w6 ⟨rfl, hb6⟩;have HB6 := aa (HB5.out.trans (hb6.mono HB5.out.size));clear hb6;go_wp2_with fail;go_roundw;case rel => exact ⟨i + 1, by go_num, by omega, by rw [HTS.out, <- HT1.out, <- HT0.out, <- HY.out, rI, HW.out], HB6⟩
       case measure => simp [intOf]; omega
      ·exact Sq362658
     ·have z362658a := trivial;exact Sq362658
   ·have hq' : ¬ (i : Int) < n := by omega
    obtain rfl : i = n := by omega
    have BEo := aa (BE3.out.trans (HBR.out.mono BE3.out.size));obtain ⟨T, hT⟩ := nam (ai (fG (xU ms) L i));rw [hT];have hTs : T.size <= 268537671 := by have := HTL.out i (by rw [HN.out]; exact Nat.le_refl _); rw [<- hT, aj]; omega
    by_cases hbig : 16384 < T.size
    ·have hbig' : (16384 : Int) < T.size := by omega
     go_wp2_with fail;refine (CW.out wo BEo.out).mono ?_;rintro e u4 ⟨rfl, hb4⟩;go_wp2_with fail;go_ret;exact ⟨rfl, BEo.out.trans (hb4.mono BEo.out.size)⟩
    ·have hbig' : ¬ (16384 : Int) < T.size := by omega
     obtain ⟨L2, hL2, hre⟩ := qh (xU ms) HL.out (by rw [HN.out, <- aj, hT]; omega);rw [HN.out] at hL2;obtain ⟨x, hx⟩ := zj (.stmt []) (aA L 0);have HP1 := aa (CP.out s L x wo BEo.out (by omega) HL.out hx);have HP2 := aa (fun u hu => CP.out T L2 x u hu (by omega) (by rw [<- hT, kM]; exact hL2) (by rw [hre]; exact hx));have HWT := aa (CT.out L x HL.out hx);obtain ⟨⟨o, st⟩, ho⟩ : ∃ o, lC x = o := ⟨_, rfl⟩;rw [ho] at HP1 HP2 HWT;clear ho hx hre hL2 hT hbig;go_wp2_with (go_at_call 11; refine af.out ?_);refine af.mk ?_;refine HP1.out.mono ?_;rintro e u4 ⟨hb4, a4, n4, c4, p4, S4, rfl, hX4⟩;have HX4 := aa hX4;clear hX4;have zb4 := hb4.size;have BE4 := aa (BEo.out.trans (hb4.mono BEo.out.size));clear hb4;have hTh := ah (ae.new u4 [.slice none 0 0] 35) 0 1 (Nat.le_refl 1);go_upto_region 19 with (refine wpList_store_mid rfl 35 _ _ rfl u4.heap.size 0 #[.slice a4 n4 c4] rfl rfl hTh (by kernel_rfl) (by simp [Value.oneCell']) ?_);obtain ⟨u5, hu5⟩ : ∃ u, (u4.alloc (.cells #[.slice none 0 0] 35)).setCells u4.heap.size 0 ((#[.slice a4 n4 c4] : Array Value).toList) = u := ⟨_, rfl⟩;rw [hu5];have b5 : Below u4.heap.size u4 u5 := by rw [<- hu5]; exact aN (Nat.le_refl _) _ 0 _ ((Below.refl _ _).alloc (Nat.le_refl _) _)
     have BE5 := aa (BE4.out.trans (b5.mono BE4.out.size));have BB5 := aa b5;have B5 := aa (show ae u5 u4.heap.size [.slice a4 n4 c4] 35 from by rw [<- hu5]; exact (ae.new u4 [.slice none 0 0] 35).all _ rfl);clear hu5 hTh b5;have HX5 := aa (HX4.out.below BB5.out);go_wp2_with (go_at_call 11; refine af.out ?_);refine af.mk ?_;refine (HP2.out u5 BE5.out).mono ?_;rintro e u6 ⟨hb6, a6, n6, c6, p6, S6, rfl, hX6⟩;have HX6 := aa hX6;have HX56 := aa (HX5.out.below hb6);have B56 := aa (B5.out.below hb6 B5.out.lt);clear hX6;have zb6 := hb6.size;have BE6 := aa (BE5.out.trans (hb6.mono BE5.out.size));clear hb6;have hTh := ah (ae.new u6 [.slice none 0 0] 35) 0 1 (Nat.le_refl 1);go_upto_region 20 with (refine wpList_store_mid rfl 35 _ _ rfl u6.heap.size 0 #[.slice a6 n6 c6] rfl rfl hTh (by kernel_rfl) (by simp [Value.oneCell']) ?_);obtain ⟨u7, hu7⟩ : ∃ u, (u6.alloc (.cells #[.slice none 0 0] 35)).setCells u6.heap.size 0 ((#[.slice a6 n6 c6] : Array Value).toList) = u := ⟨_, rfl⟩;rw [hu7];have b7 : Below u6.heap.size u6 u7 := by rw [<- hu7]; exact aN (Nat.le_refl _) _ 0 _ ((Below.refl _ _).alloc (Nat.le_refl _) _)
     have BE7 := aa (BE6.out.trans (b7.mono BE6.out.size));have BB7 := aa b7;have B7 := aa (show ae u7 u6.heap.size [.slice a6 n6 c6] 35 from by rw [<- hu7]; exact (ae.new u6 [.slice none 0 0] 35).all _ rfl);clear hu7 hTh b7;have HX7 := aa (HX6.out.below BB7.out);have HX57 := aa (HX56.out.below BB7.out);have v12 := (B56.out.below BB7.out B56.out.lt).cell (i := 0) rfl;have v15 := B7.out.cell (i := 0) rfl;have HSA := aa (zO st [.slice a4 n4 c4] [.slice a6 n6 c6] u7.heap.size u7 HX57.out.is HX7.out.is (Nat.le_refl _) HWT.out);have e0 : (o == o) = true := by simp
     go_wp2_with (go_at_call 12; refine af.out ?_);refine af.mk ?_;refine HSA.out.mono ?_;rintro e u8 ⟨rfl, hb8⟩;have BE8 := aa (BE7.out.trans (hb8.mono BE7.out.size));clear hb8;go_wp2_with fail;refine (CW.out u8 BE8.out).mono ?_;rintro e u9 ⟨rfl, hb9⟩;go_wp2_with fail;go_ret;exact ⟨rfl, BE8.out.trans (hb9.mono BE8.out.size)⟩
theorem xW (B : Nat) (w : World) : j7 B w [.slice none 0 0] ⟨[]⟩ := ⟨none, 0, rfl, al, ax⟩
theorem uC (s : ByteArray) (L : List (am × Nat)) (x : Pr) (w : World) (hs : s.size <= 1099511627776) (hM : ML w) (hL : cv s.data.toList = .ok L) (hx : nM (.stmt []) (aA L 0) x) : Calls Tryz.prog 11 #[.string s] w (B8 (lC x) w) := by
 have hA := jt s w hs hM;unfold gy at hA;rw [hL] at hA;obtain ⟨h1, h2, h3, h4, h5⟩ := hA;obtain ⟨f, hf⟩ := zk hx;cases x with
 | bad r => exact (mF s L w h1 h2 h3 h4 h5 r hf).mono fun e w' ⟨k, y, g1, g2, g3, g4⟩ => ⟨g4, none, 0, 0, y.2, fun _ => False, g3, HG.pure w' fun u => xW _ u⟩
 | ok v r =>
  refine (pX s L w h1 h2 h3 h4 h5 v r _ (p8 hM hL hx) hf).mono fun e w' ⟨g1, g2⟩ => ?_
  rw [show lC (.ok v r) = if eI ⟨v.clauses⟩ then (0, ⟨v.clauses⟩) else (8, ⟨[]⟩) from rfl];cases hb : eI ⟨v.clauses⟩ with
  | true =>
   rw [if_pos rfl];rw [hb, if_pos rfl] at g2;obtain ⟨S, cs, rfl, -, hX⟩ := g2;obtain ⟨a, c, rfl, -⟩ := hX.is;exact ⟨g1, a, _, c, 0, S, rfl, hX⟩
  | false =>
   rw [if_neg (by simp)];rw [hb, if_neg (by simp)] at g2;exact ⟨g1, none, 0, 0, 0, fun _ => False, g2, HG.pure w' fun u => xW _ u⟩
theorem Bm {s : List UInt8} {L : List (am × Nat)} {x : Pr} (hL : cv s = .ok L) (hx : nM (.stmt []) (aA L 0) x) : nu (lC x).2 <= 1099511627776 := by
 have h2 := (jJ hL).2.2.2.2;have h0 : nu ⟨[]⟩ <= 1099511627776 := by decide
 cases x with
 | bad r => exact h0
 | ok v r =>
  obtain ⟨f, hf⟩ := hx;have h1 := sK hf;rw [show lC (.ok v r) = if eI ⟨v.clauses⟩ then (0, ⟨v.clauses⟩) else (8, ⟨[]⟩) from rfl];cases eI ⟨v.clauses⟩ with
  | true => rw [if_pos rfl]; exact Nat.le_trans h1 (Nat.le_trans h2 (by decide))
  | false => rw [if_neg (by simp)]; exact h0
theorem pblanks_any (s : ByteArray) (a1 : Option Addr) (n1 c1 : Nat) (ms : List Int) (w : World) (hs : s.size <= 1073741824) (hml : ms.length = n1) (HC : da w.heap.size w a1 (ms.map (.int .i64))) (hM : ML w) :
    Calls Tryz.prog 3 #[.string s, .slice a1 n1 c1] w fun e w' => e = .returned (.bool true) /\ Below w.heap.size w w' :=
  rJ s a1 n1 c1 ms w hs hml HC (fun s' L x w0 hb h hL hx => uC s' L x w0 h (hM.below hb) hL hx) (fun s' h => jt s' w h hM) (fun L x hL hx => Bm hL hx) (fun w0 hb => uu w0 (hM.below hb))
end Go.Proofs.YteljlahcdipilaaGreat

/- Parts Q33, Q34, Q35 of this seat (pruned, scripts that are alike kept once as default arguments: q1, q2, ..). Conditions: each says its own. -/
import Derived.Test.YteljlahcdipilaaGreatG38
set_option linter.unusedSimpArgs false
set_option linter.unusedVariables false
set_option maxRecDepth 1000000
set_option maxHeartbeats 64000000
namespace Go.Proofs.YteljlahcdipilaaGreat
open Go.RowKit Go.Shelf Go.ChangeMaps Go.Maps
theorem rz {f : Nat} (bp : Nat) (a : Option Addr) (cap : Nat) (L : List (am × Nat)) (k : Nat) (w : World) (x : Pr) (h : Ps bp a cap L k w) (hT : Tk L) (hk : k < L.length) (hr : run (f + 1) (.clause dc) (aA L k) = some x) :
    Calls Tryz.prog 85 #[.pointer (some ⟨bp, 0, none⟩)] w (PR (fg jG V.clause) bp L k w x) := pT bp a cap L k w x h hT hk (by
  have hr : Go.Proofs.YteljlahcdipilaaGreat.step (run f) (.clause dc) (aA L k) = some x := hr;simp only [Go.Proofs.YteljlahcdipilaaGreat.step, (by decide : ¬ (dc : List UInt8) = ek), (by decide : ¬ (dc : List UInt8) = dn), (by decide : ¬ (dc : List UInt8) = fC), (by decide : ¬ (dc : List UInt8) = dp), (by decide : ¬ (dc : List UInt8) = dq), (by decide : ¬ (dc : List UInt8) = em), (by decide : ¬ (dc : List UInt8) = iX), (by decide : ¬ (dc : List UInt8) = dr),  if_false, if_true] at hr;exact hr)
theorem AR (f : Nat) {t : List UInt8} (h : t ∈ gU) : ∃ F : FuncId, gx (ai t) = some (.func (.func F) #[] #[]) /\ (∀ (p : Value) (w' : World), (callFunc F #[p]).run Tryz.prog w' = .ok (.enter F #[p]) w') /\ cL F [] (.clause t) (fg jG V.clause) f := by
 have h10 : t = ek \/ t = dn \/ t = fC \/ t = dp \/ t = dq \/ t = em \/ t = iX \/ t = dr \/ t = dc \/ t = dA := by simpa [gU] using h
 rcases h10 with rfl | rfl | rfl | rfl | rfl | rfl | rfl | rfl | rfl | rfl
 ·refine ⟨78, by kernel_rfl, fun p w' => by kernel_rfl, ?_⟩;cases f with
  | zero => exact cL.zero
  | succ f => exact fun bp a cap L k w x h hT hk hr => um bp a cap L k w x h hT hk hr
 ·refine ⟨79, by kernel_rfl, fun p w' => by kernel_rfl, ?_⟩;cases f with
  | zero => exact cL.zero
  | succ f => exact fun bp a cap L k w x h hT hk hr => ru bp a cap L k w x h hT hk hr
 ·refine ⟨80, by kernel_rfl, fun p w' => by kernel_rfl, ?_⟩;cases f with
  | zero => exact cL.zero
  | succ f => exact fun bp a cap L k w x h hT hk hr => wZ bp a cap L k w x h hT hk hr
 ·refine ⟨87, by kernel_rfl, fun p w' => by kernel_rfl, ?_⟩;cases f with
  | zero => exact cL.zero
  | succ f => exact fun bp a cap L k w x h hT hk hr => wY bp a cap L k w x h hT hk hr
 ·refine ⟨81, by kernel_rfl, fun p w' => by kernel_rfl, ?_⟩;cases f with
  | zero => exact cL.zero
  | succ f => exact fun bp a cap L k w x h hT hk hr => rr bp a cap L k w x h hT hk hr
 ·refine ⟨82, by kernel_rfl, fun p w' => by kernel_rfl, ?_⟩;cases f with
  | zero => exact cL.zero
  | succ f => exact fun bp a cap L k w x h hT hk hr => uo bp a cap L k w x h hT hk hr
 ·refine ⟨83, by kernel_rfl, fun p w' => by kernel_rfl, ?_⟩;cases f with
  | zero => exact cL.zero
  | succ f => exact fun bp a cap L k w x h hT hk hr => za bp a cap L k w x h hT hk hr
 ·refine ⟨84, by kernel_rfl, fun p w' => by kernel_rfl, ?_⟩;cases f with
  | zero => exact cL.zero
  | succ f => exact fun bp a cap L k w x h hT hk hr => ry bp a cap L k w x h hT hk hr
 ·refine ⟨85, by kernel_rfl, fun p w' => by kernel_rfl, ?_⟩;cases f with
  | zero => exact cL.zero
  | succ f => exact fun bp a cap L k w x h hT hk hr => rz bp a cap L k w x h hT hk hr
 ·refine ⟨86, by kernel_rfl, fun p w' => by kernel_rfl, ?_⟩;cases f with
  | zero => exact cL.zero
  | succ f => exact fun bp a cap L k w x h hT hk hr => rx bp a cap L k w x h hT hk hr
theorem AS {t : List UInt8} (h : ¬ t ∈ gU) : gx (ai t) = none := by
 have hn : ∀ s : List UInt8, s ∈ gU -> ¬ ai t = ⟨s.toArray⟩ := fun s hs e => h (by
  have e2 : (ai t).toList = (ai s).toList := by rw [e]; rfl
  rw [aE, aE] at e2;rw [e2]; exact hs)
 simp only [gx, xw, xu, xt, xr, xq, xp, xo, xm, xj, xh, if_neg (hn ek (by decide)), if_neg (hn dn (by decide)), if_neg (hn fC (by decide)), if_neg (hn dp (by decide)), if_neg (hn dq (by decide)), if_neg (hn em (by decide)), if_neg (hn iX (by decide)), if_neg (hn dr (by decide)), if_neg (hn dc (by decide)), if_neg (hn dA (by decide))]
theorem dZ.lastC {B : Nat} {S : Nat -> Prop} {w : World} {lv : Value} {l : List dS} {m : Nat} (h : dZ jG 71 22 B S w lv l) (hm : l.length = m + 1) : ∃ g cap, lv = .slice (some ⟨g, 0, none⟩) (m + 1) cap /\ m + 1 <= cap /\ w.cell? ⟨g, m * 22, none⟩ = some (.int .i64 (mx l)) := by
 obtain ⟨cl, css, ⟨h1, h2⟩, h3, h4⟩ := h.own;rcases h2 with ⟨-, h5⟩ | ⟨g, cap, cur, rfl, hb, hh, hn, hmx, hs, ht⟩
 ·omega
 ·refine ⟨g, cap, by rw [hm], by omega, ?_⟩;have hA := h4.is;have hx : l[m]? = some (l[m]'(by omega)) := List.getElem?_eq_getElem _;obtain ⟨cs, g1, g2, g3⟩ := hA.get m _ hx;have hlk : mx l = (l[m]'(by omega)).kind := by
   unfold mx;rw [List.getLast?_eq_getElem?, show l.length - 1 = m from by omega, hx]
  rw [hlk];have hc : cs[0]? = some (.int .i64 (l[m]'(by omega)).kind) := by
   obtain ⟨a1, c1, a2, c2, xe, a5, c5, a7, c7, a8, c8, a9, c9, a10, c10, a11, c11, e, -⟩ := g3;rw [e]; rfl
  have h6 := iw css m 0 cs _ hA.lens g1 hc;rw [<- h3, <- ht, List.getElem?_take] at h6
  split at h6
  ·have hbl : ae w g cur.toList 71 := by unfold ae; simpa using hh
   exact hbl.cell (i := m * 22) h6
  ·cases h6
theorem Tryz.infoCl : (Tryz.prog.info? 71).map (fun i => (i.zero, i.size, i.bytes)) = some (some (.agg ac), 22, 392) := by kernel_rfl
structure AT (bp : Nat) (a : Option Addr) (cap : Nat) (L : List (am × Nat)) (w : World) (f mb kb : Nat) (x : Pr) (g k : Nat) (S : Nat -> Prop) (lv : Value) (l : List dS) (u : World) : Prop where
  st : St bp a cap L w k u
  lt : k < L.length
  ge : kb <= k
  ln : l.length <= k
  r4 : ae u w.heap.size [.slice none 0 0] 35
  r5 : ae u (w.heap.size + 1) [lv] 35
  mp : bF u KS mb 10 gx
  hb : w.heap.size + 1 < mb
  row : dZ jG 71 22 (mb + 1) S u lv l
  le : g <= f
  rn : run g (.stmt l) (aA L k) = some x
theorem Cj {w : World} {mb : Nat} (h : bF w KS mb 10 gx) : HG (fun u => bF u KS mb 10 gx) (fun b => b = mb) w := ⟨fun b e => by rw [e]; exact h.lt, fun u hu => h.of_heap (hu mb rfl)⟩
theorem BT {S : Nat -> Prop} {w : World} {a : Option Addr} {c : Nat} {l : List dS} (h : ul jG 22 S w a l) (s : aZ a l.length c) : HG (fun u => AI u [.slice a l.length c] ⟨l⟩) S w := h.imp fun u h => ⟨a, c, rfl, s, h⟩
theorem pV {f : Nat} {L0 : List (am × Nat)} (hTl : ∀ (j : Nat) y, L0[j]? = some y -> y.1.t.length <= 4294967296) (bp : Nat) (a : Option Addr) (cap : Nat) (L : List (am × Nat)) (k : Nat) (w : World) (x : Pr) (h : Ps bp a cap L k w) (hL0 : L0 = L) (hT : Tk L) (hk : k < L.length)  (hr : run (f + 1) (.stmt []) (aA L k) = some x) :
    Calls Tryz.prog 29 #[.pointer (some ⟨bp, 0, none⟩)] w (PR (fg AI fun v => ⟨v.clauses⟩) bp L k w x) := by
 have HT := aa hT;have HK0 := aa hk;have X0 := aa hr;have hbw := h.lt;obtain ⟨u0, hy0⟩ := nam (w.alloc (.cells #[.slice none 0 0] 35));have s0 : St bp a cap L w k u0 := by rw [<- hy0]; exact (St.start h).alloc _
 have b0 : ae u0 w.heap.size [.slice none 0 0] 35 := by rw [<- hy0]; exact ae.new w _ _
 have B0r := aa b0;clear b0;have S0 := aa s0;have HU := aa hy0;clear s0 hy0 h hT hk hr;have z0 := B0r.out.lt;rw [hL0] at hTl;have HTL := aa hTl;clear hTl hL0;go_enter Tryz.func29, Tryz.ntmps29;go_upto_region 1 with fail;rw [HU.out];go_upto_region 2 with fail;obtain ⟨u1, hu1⟩ := nam (u0.alloc (.cells #[.slice none 0 0] 35));rw [hu1];have zs : u0.heap.size = w.heap.size + 1 := by rw [<- HU.out]; simp
 rw [zs];have zs1 : u1.heap.size = w.heap.size + 2 := by rw [<- hu1]; simp; omega
 have S1 := aa (show St bp a cap L w k u1 from by rw [<- hu1]; exact S0.out.alloc _);have B1r := aa (show ae u1 _ _ _ from by rw [<- hu1]; exact B0r.out.alloc _);have B1b := aa (show ae u1 (w.heap.size + 1) [.slice none 0 0] 35 from by rw [<- hu1, <- zs]; exact ae.new u0 _ _);clear hu1;go_wp2_with (go_at_call 46; refine af.out ?_);refine af.mk ?_;refine (pU u1).mono ?_;rintro e u2 ⟨mb, rfl, hmb, hmp, hbe⟩;have m2 : Mv bp k u1 u2 := Mv.below (Mv.refl S1.out.ps) hbe;have MP := aa hmp;clear hmp hbe;have S2 := aa (S1.out.call m2);have B2r := aa (m2.blk B1r.out (by omega));have B2b := aa (m2.blk B1b.out (by omega));have zw2 := S2.out.size;have zz2 := Mv.size m2;clear m2;go_wp2_with fail
 go_loopg [] (f + 1) (fun g wr => ∃ k0 S lv l, Hid (AT bp a cap L w (f + 1) mb k x g k0 S lv l wr))
 case atStart => exact ⟨k, _, _, [], aa ⟨S2.out, HK0.out, Nat.le_refl _, by simp, B2r.out, B2b.out, MP.out, by omega, dZ.nil, Nat.le_refl _, X0.out⟩⟩
 case round =>
  clear S2 S1 S0 B2r B2b B1r B1b B0r HU MP X0;obtain ⟨k0, S, lv, l, hP⟩ := hrel;have hP := hP.out;cases gk with
  | zero => exact absurd hP.rn (by intro h; cases h)
  | succ g =>
   have rn : Go.Proofs.YteljlahcdipilaaGreat.step (run g) (.stmt l) (aA L k0) = some x := hP.rn;simp only [Go.Proofs.YteljlahcdipilaaGreat.step, ar] at rn;have S60 := aa hP.st;have zw60 := hP.st.size;have R60a := aa hP.row;have B60r := aa hP.r4;have B60b := aa hP.r5;have MP := aa hP.mp;have HK60 := aa hP.lt;have hln := hP.ln;have hge := hP.ge;have hll := hP.lt;have hL := hP.st.ln;have hgf := hP.le;have hb4 := hP.hb;have zb5 := hP.r5.lt;have zmb := hP.mp.lt;have RN := aa rn;clear hP rn;obtain ⟨tk, htk⟩ := nam (nx (aA L k0));have HTK := aa htk;have htl : tk.t.length <= 4294967296 := by obtain ⟨y, hy⟩ := dh HK60.out; rw [<- htk, eT hy]; exact HTL.out k0 y hy
   have CN := sv S60.out HK60.out;rw [htk] at CN;have CN := aa CN;clear htk;go_wp2_with (go_at_call 47; refine af.out ?_);refine af.mk ?_;refine CN.out.mono ?_;rintro e u61 ⟨tp, rfl, m61⟩;clear CN;have MP61 := aa (MP.out.of_heap ((Below.block m61 mb (by omega)).trans (Below.heap_setCell wr ⟨bp, 1, none⟩ _ mb (by show mb ≠ bp; omega))));have S61 := aa (S60.out.call m61);have B61r := aa (m61.blk B60r.out (by omega));have B61b := aa (m61.blk B60b.out (by omega));have R61a := aa (R60a.out.mv m61 (by omega));have zw61 := S61.out.size;have zz61 := Mv.size m61;clear m61;have hTh := ah (ae.new u61 [.int .i64 0, .string ⟨#[]⟩, .int .i64 0, .int .i64 0] 31) 0 4 (Nat.le_refl 4);go_upto_region 4 with (first | (refine wpList_store_mid rfl 31 _ _ rfl u61.heap.size 0 #[.int .i64 tk.k, .string (ai tk.t), .int .i64 tk.n, .int .i64 tp] rfl rfl hTh (by kernel_rfl) (by simp [Value.oneCell']) ?_))
   go_frame
   obtain ⟨b6, hb6⟩ := nam u61.heap.size;rw [hb6];obtain ⟨u62, hu62⟩ : ∃ u, (u61.alloc (.cells #[.int .i64 0, .string ⟨#[]⟩, .int .i64 0, .int .i64 0] 31)).setCells b6 0 ((#[.int .i64 tk.k, .string (ai tk.t), .int .i64 tk.n, .int .i64 tp] : Array Value).toList) = u := ⟨_, rfl⟩;rw [hu62];have zb6 : b6 < u62.heap.size /\ True /\ u61.heap.size <= u62.heap.size /\ u61.heap.size = b6 := by rw [<- hu62, aQ, <- hb6]; simp <;> omega
   have S62 := aa (show St bp a cap L w k0 u62 from by rw [<- hu62]; exact (S61.out.alloc _).sets (by have := S61.out.size; omega) 0 _);have B62r := aa (show ae u62 _ _ _ from by rw [<- hu62]; exact (B61r.out.alloc _).of_heap (ak (by have := B61r.out.lt; omega) _ 0 _));have B62b := aa (show ae u62 _ _ _ from by rw [<- hu62]; exact (B61b.out.alloc _).of_heap (ak (by have := B61b.out.lt; omega) _ 0 _));have B62t := aa (show ae u62 b6 [.int .i64 tk.k, .string (ai tk.t), .int .i64 tk.n, .int .i64 tp] 31 from by rw [<- hu62, <- hb6]; exact (ae.new u61 [.int .i64 0, .string ⟨#[]⟩, .int .i64 0, .int .i64 0] 31).all [.int .i64 tk.k, .string (ai tk.t), .int .i64 tk.n, .int .i64 tp] rfl);have R62a := aa (show dZ _ _ _ _ _ u62 _ _ from by rw [<- hu62]; exact (R61a.out.alloc _).sets 0 _ (fun h => absurd (R61a.out.lt h).2 (by omega)));have hk62 := aa (fun (q : Nat) (hq : q < u61.heap.size) => (show u62.heap[q]? = u61.heap[q]? from by rw [<- hu62, ak (by omega) _ 0 _]; exact Below.heap_alloc _ _ _ hq));clear hu62 hb6 hTh;have MP62 := aa (show bF u62 KS mb 10 gx from MP61.out.of_heap (by have := MP61.out.lt; exact hk62.out mb this));obtain ⟨la, lc, hlv⟩ : ∃ a c, lv = .slice a l.length c := by obtain ⟨S', xa, xc, h, -⟩ := R62a.out.fin; exact ⟨xa, xc, h⟩
   subst hlv;have e5 := B62b.out.cell (i := 0) rfl;obtain ⟨lk, hlk⟩ := nam (mx l);have HLK := aa hlk;go_upto_if 16 with fail;go_cut [6, 7] (fun v n9 wx => v = .int .i64 lk /\ u62 = wx);case first =>
    by_cases h0 : l.length = 0
    ·have h0i : ¬ (0 : Int) < l.length := by omega
     have h0n : ¬ 0 < l.length := by omega
     go_wp2_with fail;go_meet;exact ⟨by rw [<- HLK.out, List.eq_nil_of_length_eq_zero h0]; rfl, rfl⟩
    ·obtain ⟨m, hm⟩ : ∃ m, l.length = m + 1 := ⟨l.length - 1, by omega⟩;obtain ⟨gb, cap', hlv, hcap, hcell⟩ := R62a.out.lastC hm;injection hlv with e1 e2 e3
     subst e1 e3;rw [HLK.out] at hcell;clear e2;have hml : m < 4097 := by omega
     rw [hm] at e5 ⊢;have h0i : (0 : Int) < ((m + 1 : Nat) : Int) := by omega
     have h0j : (0 : Int) < (m : Int) + 1 := by omega
     have hw1 : IntKind.i64.wrap ((m : Int) + 1 - 1) = m := by rw [show (m : Int) + 1 - 1 = m from by omega]; exact IntWalk.i64_in _ (by omega)
     have hw2 : IntKind.i64.wrap (((m + 1 : Nat) : Int) - 1) = m := by rw [show ((m + 1 : Nat) : Int) - 1 = m from by omega]; exact IntWalk.i64_in _ (by omega)
     have hi1 : (m : Int) < (m : Int) + 1 := by omega
     have hi2 : (0 : Int) <= (m : Int) := by omega
     have hcell0 : u62.cell? ⟨gb, 0 + m * 22, none⟩ = some (.int .i64 lk) := by rw [Nat.zero_add]; exact hcell
     clear hm h0;go_wp2_with fail;go_meet;exact ⟨rfl, rfl⟩
   case rest =>
    obtain ⟨rfl, rfl⟩ := hcut;clear e5 hlk;have t0 := B62t.out.cell (i := 0) rfl;have t1 := B62t.out.cell (i := 1) rfl;obtain ⟨b8, hb8⟩ := nam (decide (tk.k = 6 /\ 4 <= lk));have HB8 := aa hb8;clear hb8;have XE := RN.out;rw [HTK.out, HLK.out] at XE;have XP := aa (fun hh : tk.k = 6 /\ 4 <= lk => (if_pos hh).symm.trans XE);have XM := aa (fun hh : ¬ (tk.k = 6 /\ 4 <= lk) => (if_neg hh).symm.trans XE);clear XE;go_upto_region 8 with fail;go_cut [30] (fun v wx => v = .bool b8 /\ u62 = wx);case first =>
     by_cases k6 : tk.k = 6
     ·have k6b : ((tk.k : Int) == 6) = true := by simp; omega
      by_cases k4 : 4 <= lk
      ·have k4b : decide ((4 : Int) <= lk) = true := by simpa using k4
       go_wp2_with fail;go_meet;exact ⟨by rw [<- HB8.out, decide_eq_true ⟨k6, k4⟩], rfl⟩
      ·have k4b : decide ((4 : Int) <= lk) = false := by simpa using k4
       go_wp2_with fail;go_meet;exact ⟨by rw [<- HB8.out, decide_eq_false (fun h => absurd h.2 (by omega))], rfl⟩
     ·have k6b : ((tk.k : Int) == 6) = false := by simp; omega
      go_wp2_with fail;go_meet;exact ⟨by rw [<- HB8.out, decide_eq_false (fun h => k6 h.1)], rfl⟩
    case rest =>
     obtain ⟨rfl, rfl⟩ := hcut;cases b8 with
     | true =>
      have XF := aa (XP.out (of_decide_eq_true HB8.out));obtain ⟨S9, xa, xc, e9, hsl, hS9, hR9⟩ := R62a.out.fin;injection e9 with e91 e92 e93
      subst e91 e93;clear e92;have VM := aa (BT hR9 hsl);have hS9' : ∀ q, S9 q -> w.heap.size + 2 <= q := fun q hq => by have := (R62a.out.lt (hS9 q hq)).1; omega
      clear hR9 hsl hS9 t0 t1;obtain rfl := Option.some.inj XF.out;have hRg := B62b.out.rng;have hTh := ah B62r.out 0 1 (Nat.le_refl 1);go_wp2_with (first | (refine wpList_load_mid rfl 35 _ rfl (w.heap.size + 1) 0 rfl [.slice la l.length lc] _ hRg Tryz.underlying35 rfl (by kernel_rfl) ?_) | (refine wpList_store_mid rfl 35 _ _ rfl w.heap.size 0 #[.slice la l.length lc] rfl rfl hTh (by kernel_rfl) (by simp [Value.oneCell']) ?_));have B99 := B62r.out.all [.slice la l.length lc] rfl;refine bodyPost_ret (results_cell_row (by rfl) _ _ w.heap.size 35 _ (0, 0) _ (by rfl) B99 Tryz.underlying35 rfl (by kernel_rfl)) rfl ?_;exact ⟨k0, _, by omega, HK60.out, rfl, rfl, fg.mk (VM.out.sets 0 _ (fun h => absurd (hS9' _ h) (by omega))) (rfl) (fun b h => by have := hS9' b h; omega), (S62.out.sets (Nat.le_refl _) 0 _).mv⟩
     | false =>
      have XN := aa (XM.out (of_decide_eq_false HB8.out));have XE := XN.out;have YP := aa (fun hh : tk.k = 2 /\ tk.t ∈ gU /\ lk ≠ 9 => (if_pos hh).symm.trans XE);have YM := aa (fun hh : ¬ (tk.k = 2 /\ tk.t ∈ gU /\ lk ≠ 9) => (if_neg hh).symm.trans XE);clear XE;have hz : (zeroValue 120).run Tryz.prog u62 = .ok .nilFunc u62 := by kernel_rfl
      have hl := MP62.out.lookup Tryz.mapSF hz (x := ai tk.t) (show (ai tk.t).size <= maxLen by rw [aj]; unfold maxLen; omega);clear hz
      by_cases hw : tk.t ∈ gU
      ·obtain ⟨F, hF, hcf, hSaid⟩ := AR g hw;rw [hF] at hl;replace hl : (Instr.lookup 117 (.map (some mb)) (.string (ai tk.t)) false).run Tryz.prog u62 = .ok (.func (.func F) #[] #[]) u62 := hl;have hne : ∀ u, (binOp BinOp.neq 120 (.func (.func F) #[] #[]) .nilFunc).run Tryz.prog u = .ok (.bool true) u := fun _ => by kernel_rfl
       have HS := aa hSaid;have HCF := aa hcf;clear hF hcf hSaid
       by_cases k2 : tk.k = 2
       ·have k2b : ((tk.k : Int) == 2) = true := by simp; omega
        by_cases l9 : lk = 9
        ·subst l9;go_wp2_with (go_at_call 48; refine af.out ?_);refine af.mk ?_;refine (jr S62.out HK60.out).mono ?_;rintro e u90 ⟨k9, y9, j9, f1, f2, rfl, f3⟩;have h9 := YM.out (fun h => h.2.2 rfl);obtain rfl := Option.some.inj h9;go_wp2_with fail;exact ⟨rfl, k9, y9, j9, f1, by first | exact f2 | rfl, rfl, Mv.trans S62.out.mv f3⟩
        ·have l9b : (lk != 9) = true := by simpa using l9
         have XE := aa (YP.out ⟨k2, hw, l9⟩);have HKN : Hid (k0 + 1 < L.length) := aa (HT.out.step HK60.out (by rw [HTK.out, k2]; decide));have HW9 := aa hw;have V62m := aa (Cj MP62.out);have Nm := aa (show ∀ q, q = mb -> mb <= q from fun q e => by omega);go_wp2_with (go_at_call 48; refine af.out ?_);refine af.mk ?_;have CT := sw S62.out HK60.out;refine CT.mono ?_;rintro e u63 ⟨tp2, rfl, m63⟩;clear CT;have S63 := aa (S62.out.call m63);have B63r := aa (m63.blk B62r.out (by omega));have B63b := aa (m63.blk B62b.out (by omega));have V63m := aa (V62m.out.mv m63 (fun h => absurd (Nm.out _ h) (by omega)));have R63a := aa (R62a.out.mv m63 (by omega));have zw63 := S63.out.size;have zz63 := Mv.size m63;clear m63;have hcf := HCF.out;go_upto_region 12 with fail;obtain ⟨u64, hu64⟩ := nam u63.drew;have S64 := aa (show St bp a cap L w (k0 + 1) u64 from by rw [<- hu64]; exact S63.out.drew);have zz64 : u63.heap.size = u64.heap.size := by rw [<- hu64]; rfl
         have B64r := aa (B63r.out.of_heap (w' := u64) (by rw [<- hu64]; rfl));have B64b := aa (B63b.out.of_heap (w' := u64) (by rw [<- hu64]; rfl));have V64m := aa (V63m.out.same (w1 := u64) (fun _ _ => by rw [<- hu64]; rfl));have R64a := aa (R63a.out.same (w1 := u64) (fun _ _ => by rw [<- hu64]; rfl));refine aR (S := (fun w' : World => w'.cell? ⟨(w.heap.size + 1), 0, none⟩ = some (.slice la l.length lc))) (fun j => j == 8) (by kernel_rfl) ?_;rw [hu64];clear hu64;have hHeld : ((fun w' : World => w'.cell? ⟨(w.heap.size + 1), 0, none⟩ = some (.slice la l.length lc))) u64 := B64b.out.cell (i := 0) rfl;refine Jt 0 ?_;refine Jl 1 ?_;refine Jt 2 ?_;refine Jt 3 ?_;refine Jr 4 fun KK hKK => ?_
         go_simp;refine (HS.out.go2 S64.out HT.out HKN.out XE.out).mono ?_;rintro e u65 (⟨p9, r9, rfl, rfl, f9⟩ | ⟨v65, k65, val65, q65, l65, x65, rfl, ⟨T65, ds65, rfl, hT65, hX65⟩, m65⟩)
         ·exact ⟨rfl, f9⟩
         clear hcf;have X65 := aa x65;have HK65 := aa l65;clear x65 l65;have S65 := aa (S64.out.call m65);have B65r := aa (m65.blk B64r.out (by omega));have B65b := aa (m65.blk B64b.out (by omega));have V65m := aa (V64m.out.mv m65 (fun h => absurd (Nm.out _ h) (by omega)));have R65a := aa (R64a.out.mv m65 (by omega));have zw65 := S65.out.size;have zz65 := Mv.size m65;clear m65;obtain ⟨kd65, a165, n165, c165, a265, n265, c265, op65, nm65, vk65, vb65, vi65, vs65, la65, ln65, lc65, ka65, kn65, kc65, na65, nn65, nc65, xa65, xn65, xc65, vr65, a565, n565, c565, un65, a765, n765, c765, a865, n865, c865, a965, n965, c965, a1065, n1065, c1065, a1165, n1165, c1165, de65, rfl⟩ := fY hX65;have V65y := aa hX65;clear hX65;have Ny := aa hT65;refine hKK _ _ (fun _ _ => B65b.out.cell (i := 0) rfl) ?_;clear hKK KK hHeld;have hHeld := B65b.out.cell (i := 0) rfl;refine Jn ?_;refine Jr 5 fun KK hKK => ?_
         go_simp;refine hKK _ _ (fun _ _ => (B65b.out.alloc _).cell (i := 0) rfl) ?_;clear hKK KK hHeld;have hHeld := (B65b.out.alloc (.cells #[.int .i64 kd65, .slice a165 n165 c165, .slice a265 n265 c265, .int .i64 op65, .string nm65, .int .i64 vk65, .bool vb65, .int .i64 vi65, .string vs65, .slice la65 ln65 lc65, .slice ka65 kn65 kc65, .slice na65 nn65 nc65, .slice xa65 xn65 xc65, .string vr65, .slice a565 n565 c565, .bool un65, .slice a765 n765 c765, .slice a865 n865 c865, .slice a965 n965 c965, .slice a1065 n1065 c1065, .slice a1165 n1165 c1165, .bool de65] 71)).cell (i := 0) rfl;refine Jn ?_;refine Jr 6 fun KK hKK => ?_
         refine cS (R := jG) rfl _ _ 33 rfl Tryz.underlying33 Tryz.infoCl rfl (by decide) (by decide) R65a.out V65y.out rfl (fun b hb => ⟨by have := hT65 b hb; omega, fun e => absurd (hT65 b hb) (by have := (R64a.out.lt (.inr e)).2; omega)⟩) rfl rfl (by simp [Value.oneCell']) (by omega) (by omega) ?_;intro lv66 u66 hR hg ho hp;obtain ⟨ga66, gn66, gc66, rfl⟩ := hR.slice;have S66 := aa ((S65.out.alloc _).grown hg (fun q e => by have := ho q e; omega));have R66a := aa hR;have zz66 : u65.heap.size + 1 <= u66.heap.size := by have := hg.size; simpa using this
         have B66r := aa (B65r.out.of_heap (w' := u66) ((hg.block _ (by have := B65r.out.lt; simp; omega) (fun e => by have := ho _ e.symm; omega)).trans (Below.heap_alloc _ _ _ B65r.out.lt)));have B66b := aa (B65b.out.of_heap (w' := u66) ((hg.block _ (by have := B65b.out.lt; simp; omega) (fun e => by have := ho _ e.symm; omega)).trans (Below.heap_alloc _ _ _ B65b.out.lt)));have V66m := aa (V65m.out.same (w1 := u66) (fun q hq => (hg.block q (by have := V65m.out.1 q hq; simp; omega) (fun e => by have h8 := ho _ e.symm; have h9 : q = mb := hq; omega)).trans (Below.heap_alloc _ _ _ (V65m.out.1 q hq))));refine hKK _ _ (fun _ _ => B66b.out.cell (i := 0) rfl) ?_;clear hKK KK hHeld;have hHeld := B66b.out.cell (i := 0) rfl;refine Jn ?_;refine Jt 7 ?_;refine Jr 8 fun KK hKK => ?_
         have d0 := B66b.out.free 0;have c0 := B66b.out.cell (i := 0) rfl;go_simp;have c0 := B66b.out.cell (i := 0) rfl;have d0 := B66b.out.free 0;clear c0 d0;obtain ⟨u67, hu⟩ : ∃ u, (u66.setCell ⟨(w.heap.size + 1), 0, none⟩ (.slice ga66 gn66 gc66)) = u := ⟨_, rfl⟩;rw [hu];have S67 := aa (show St bp a cap L w k65 u67 from by rw [<- hu]; exact (S66.out.set (by omega) 0 _));have zz67 : u67.heap.size = u66.heap.size := by rw [<- hu]; simp [World.size_setCell]
         have hk67 : ∀ q, q ≠ (w.heap.size + 1) -> u67.heap[q]? = u66.heap[q]? := fun q hq => by rw [<- hu, Below.heap_setCell _ ⟨(w.heap.size + 1), 0, none⟩ _ q hq]
         have B67r := aa (B66r.out.of_heap (hk67 _ (by omega)));have B67b := aa (show ae u67 (w.heap.size + 1) [.slice ga66 gn66 gc66] 35 from by rw [<- hu]; exact (B66b.out.set 0 _));have V67m := aa (V66m.out.same (w1 := u67) (fun b hb => hk67 b (fun e => absurd (Nm.out _ hb) (by omega))));have R67a := aa (R66a.out.same (w1 := u67) (fun b hb => hk67 b (fun e => by have := (R66a.out.lt hb).1; omega)));clear hu hk67;refine hKK _ _ (fun h => absurd h (by decide)) ?_;clear hKK KK hHeld;refine Jn ?_;refine aK (by kernel_rfl) ?_ _;go_wp2_with fail;go_roundg g;case measure => omega
         case rel => exact ⟨k65, _, _, l ++ [v65.clause], aa ⟨S67.out, HK65.out, by omega, by simp; omega, B67r.out, B67b.out, V67m.out.is, hb4, R67a.out, by omega, X65.out⟩⟩
       ·have k2b : ((tk.k : Int) == 2) = false := by simp; omega
        go_wp2_with (go_at_call 48; refine af.out ?_);refine af.mk ?_;refine (jr S62.out HK60.out).mono ?_;rintro e u90 ⟨k9, y9, j9, f1, f2, rfl, f3⟩;have h9 := YM.out (fun h => k2 h.1);obtain rfl := Option.some.inj h9;go_wp2_with fail;exact ⟨rfl, k9, y9, j9, f1, by first | exact f2 | rfl, rfl, Mv.trans S62.out.mv f3⟩
      ·rw [AS hw] at hl;replace hl : (Instr.lookup 117 (.map (some mb)) (.string (ai tk.t)) false).run Tryz.prog u62 = .ok .nilFunc u62 := hl;have hne : ∀ u, (binOp BinOp.neq 120 .nilFunc .nilFunc).run Tryz.prog u = .ok (.bool false) u := fun _ => by kernel_rfl
       by_cases k2 : tk.k = 2
       ·have k2b : ((tk.k : Int) == 2) = true := by simp; omega
        go_wp2_with (go_at_call 48; refine af.out ?_);refine af.mk ?_;refine (jr S62.out HK60.out).mono ?_;rintro e u90 ⟨k9, y9, j9, f1, f2, rfl, f3⟩;have h9 := YM.out (fun h => hw h.2.1);obtain rfl := Option.some.inj h9;go_wp2_with fail;exact ⟨rfl, k9, y9, j9, f1, by first | exact f2 | rfl, rfl, Mv.trans S62.out.mv f3⟩
       ·have k2b : ((tk.k : Int) == 2) = false := by simp; omega
        go_wp2_with (go_at_call 48; refine af.out ?_);refine af.mk ?_;refine (jr S62.out HK60.out).mono ?_;rintro e u90 ⟨k9, y9, j9, f1, f2, rfl, f3⟩;have h9 := YM.out (fun h => k2 h.1);obtain rfl := Option.some.inj h9;go_wp2_with fail;exact ⟨rfl, k9, y9, j9, f1, by first | exact f2 | rfl, rfl, Mv.trans S62.out.mv f3⟩
end Go.Proofs.YteljlahcdipilaaGreat
namespace Go.Proofs.YteljlahcdipilaaGreat
open Go.RowKit Go.Shelf
theorem lu (po pa pe : Addr) (w : World) :
    CallsD Tryz.prog 28 #[.pointer (some po), .pointer (some pa), .pointer (some pe)] .returning w fun e u' w' => e = .returned (.tuple #[]) /\ u' = .returning /\ w' = w := by
 refine callsD_of_wpS Tryz.func28 rfl fun c₀ cs hu => ?_
 apply wpS_seq;apply wpS_region;simp [wpOpsS, go_sem, recoverD, hu, Tryz.ntmps28, Exit.thenS];apply wpS_seq;apply wpS_region;simp [wpOpsS, go_sem, recoverD, hu, Tryz.ntmps28, Exit.thenS];refine wpS_cond (t := false) (by simp [Act.eval, Array.replicate]) ?_;simp only [Bool.false_eq_true, if_false];refine wpS_of_wp (wp_skip ?_);cases c₀;simp_all [bodyPostS, results, Tryz.results28]
theorem pW (bo ba be : Nat) (c x y : Value) (p : Nat) (older : List PanicEntry) (w : World) (ho : ae w bo [c] 35) (ha : ae w ba [x] 3) (he : ae w be [y] 24) (h1 : ba ≠ bo) (h2 : be ≠ bo) (h3 : be ≠ ba) :
    CallsD Tryz.prog 28 #[.pointer (some ⟨bo, 0, none⟩), .pointer (some ⟨ba, 0, none⟩), .pointer (some ⟨be, 0, none⟩)] (.panicking ({ v := .iface 76 (.int .i64 p), recovered := false } :: older)) w fun e u' w' =>
      e = .returned (.tuple #[]) /\ u' = .panicking ({ v := .iface 76 (.int .i64 p), recovered := true } :: older) /\ w' = ((w.drew.setCells bo 0 [.slice none 0 0]).setCell ⟨ba, 0, none⟩ (.int .i64 p)).setCell ⟨be, 0, none⟩ (.int .i64 1) := by
 obtain ⟨HO, HA, HE⟩ := hd3 ho ha he;refine callsD_of_wpS Tryz.func28 rfl fun c₀ cs hu => ?_
 apply wpS_seq;apply wpS_region;simp [wpOpsS, go_sem, recoverD, hu, Tryz.ntmps28, Exit.thenS];apply wpS_seq;apply wpS_region;simp [wpOpsS, go_sem, recoverD, hu, Tryz.ntmps28, Exit.thenS];refine wpS_cond (t := true) (by simp [Act.eval, Array.replicate]) ?_;simp only [if_true];refine wpS_of_wp ?_;have HU := aa hu;clear hu ho ha he;show Code.wp Tryz.prog _ _ { tmps := #[.pointer (some ⟨bo, 0, none⟩), .pointer (some ⟨ba, 0, none⟩), .pointer (some ⟨be, 0, none⟩), .iface 76 (.int .i64 p), .iface 76 (.int .i64 p), .iface 76 (.int .i64 p), .bool true, undef, undef, undef], defers := [] } w;have hta : ∀ u, (Instr.typeAssert (.iface 76 (.int .i64 p)) 20 76 false).run Tryz.prog u = .ok (.int .i64 p) u := fun _ => by kernel_rfl
 obtain ⟨u0, hu0⟩ := nam w.drew;have B0o := aa (HO.out.of_heap (w' := u0) (by rw [<- hu0]; rfl));have B0a := aa (HA.out.of_heap (w' := u0) (by rw [<- hu0]; rfl));have B0e := aa (HE.out.of_heap (w' := u0) (by rw [<- hu0]; rfl));refine aR (S := fun _ => True) (fun _ => false) (by kernel_rfl) ?_;rw [hu0];have HU0 := aa hu0;clear hu0;refine Jt 0 ?_;refine Jt 1 ?_;refine Jt 2 ?_;refine Jr 3 fun KK hKK => ?_
 have hTh := ah B0o.out 0 1 (Nat.le_refl 1);refine cd (by rfl) 35 _ _ (by rfl) bo 0 #[.slice none 0 0] (by rfl) (by rfl) hTh (by kernel_rfl) (by simp [Value.oneCell']) ?_;obtain ⟨u1, hu1⟩ : ∃ u, u0.setCells bo 0 ((#[.slice none 0 0] : Array Value).toList) = u := ⟨_, rfl⟩;have B1a := aa (B0a.out.of_heap (w' := u1) (by rw [<- hu1]; exact ak h1 _ 0 _));have B1e := aa (B0e.out.of_heap (w' := u1) (by rw [<- hu1]; exact ak h2 _ 0 _));rw [hu1];have HU1 := aa hu1;clear hu1 hTh;refine hKK _ _ (fun _ _ => trivial) ?_;clear hKK KK;refine Jn ?_;refine Jr 4 fun KK hKK => ?_
 have c0 := B1a.out.cell (i := 0) rfl;have d0 := B1a.out.free 0;go_simp;clear c0 d0;obtain ⟨u2, hu2⟩ : ∃ u, u1.setCell ⟨ba, 0, none⟩ (.int .i64 p) = u := ⟨_, rfl⟩;have B2e := aa (B1e.out.of_heap (w' := u2) (by rw [<- hu2]; exact Below.heap_setCell _ ⟨ba, 0, none⟩ _ _ h3));rw [hu2];have HU2 := aa hu2;clear hu2;refine hKK _ _ (fun _ _ => trivial) ?_;clear hKK KK;refine Jn ?_;refine Jr 5 fun KK hKK => ?_
 have c0 := B2e.out.cell (i := 0) rfl;have d0 := B2e.out.free 0;go_simp;clear c0 d0;refine hKK _ _ (fun _ _ => trivial) ?_;clear hKK KK;refine Jn ?_;refine aK (by kernel_rfl) ?_ _;cases c₀;have h9 := HU.out;simp_all [bodyPostS, results, Tryz.results28];rw [<- HU2.out, <- HU1.out]
end Go.Proofs.YteljlahcdipilaaGreat

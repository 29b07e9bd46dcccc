/- Parts X27 of this seat (pruned, scripts that are alike kept once as default arguments: q1, q2, ..). Conditions: each says its own. -/
import Derived.Test.YteljlahcdipilaaGreatG18
set_option linter.unusedSimpArgs false
set_option linter.unusedVariables false
set_option maxRecDepth 1000000
set_option maxHeartbeats 64000000
namespace Go.Proofs.YteljlahcdipilaaGreat
open Go.RowKit Go.Shelf
theorem eC {w : World} {base : Nat} {ty : TypeId} {v : Value} {n : Nat} {cl : List Value} (h : w.ownsRow base ty 1 v n cl) : ∃ a c, v = .slice a n c /\ aZ a n c /\ (cl = [] \/ ∃ g, a = some ⟨g, 0, none⟩ /\ base <= g /\ g < w.heap.size /\ (∃ cur, w.heap[g]? = some (.cells cur ty (0, 0))) /\ ∀ (k : Nat) v, cl[k]? = some v -> w.cell? ⟨g, k, none⟩ = some v) := by
 obtain ⟨h1, h2⟩ := h;rcases h2 with ⟨rfl, h3⟩ | ⟨g, cap, cur, rfl, hb, hh, hn, hm, hs, ht⟩
 ·refine ⟨none, 0, by rw [h3], ⟨⟨by omega, by omega⟩, fun _ => rfl⟩, .inl ?_⟩;exact List.eq_nil_of_length_eq_zero (by rw [h1, h3])
 ·refine ⟨some ⟨g, 0, none⟩, cap, rfl, ⟨⟨hn, by unfold maxLen at hm; omega⟩, (fun e => by cases e)⟩, .inr ⟨g, rfl, hb, (Array.getElem?_eq_some_iff.1 hh).1, ⟨cur, hh⟩, fun k v hv => ?_⟩⟩;rw [<- ht] at hv;have hk : k < n * 1 := by have := (List.getElem?_eq_some_iff.1 hv).1; rw [List.length_take] at this; omega
  rw [List.getElem?_take_of_lt hk] at hv;rw [Lib.cell_of_heap hh];simpa using hv
theorem Tryz.infoPart : (Tryz.prog.info? 105).map (fun i => (i.zero, i.size, i.bytes)) = some (some .nilIface, 1, 16) := by kernel_rfl
def fI (B : Nat) (w : World) (a : Option Addr) (ps : List ch) : Prop := ∃ vs, da B w a vs /\ vs.length = ps.length /\ ∀ (i : Nat) p, ps[i]? = some p -> ∃ v, vs[i]? = some v /\ cj B w v p
theorem cj.below {B B' : Nat} {w w' : World} {v : Value} {p : ch} (h : cj B w v p) (hb : Below B' w w') (hB : B <= B') : cj B w' v p := by
 cases p with
 | ex t => obtain ⟨cs, rfl, hx⟩ := h; exact ⟨cs, rfl, bK.below hb hB _ _ hx⟩
 | nm s => exact h
 | pt t => obtain ⟨cs, rfl, hx⟩ := h; exact ⟨cs, rfl, hx.below hb hB⟩
 | it t => obtain ⟨cs, rfl, hx⟩ := h; exact ⟨cs, rfl, hx.below hb hB⟩
 | so t => obtain ⟨cs, rfl, hx⟩ := h; exact ⟨cs, rfl, hx.below hb hB⟩
 | si t st => obtain ⟨cs, rfl, hx⟩ := h; exact ⟨cs, rfl, hx.below hb hB⟩
theorem cj.mono {B B' : Nat} {w : World} {v : Value} {p : ch} (h : cj B w v p) (hB : B <= B') : cj B' w v p := by
 cases p with
 | ex t => obtain ⟨cs, rfl, hx⟩ := h; exact ⟨cs, rfl, bK.mono hB _ _ hx⟩
 | nm s => exact h
 | pt t => obtain ⟨cs, rfl, hx⟩ := h; exact ⟨cs, rfl, hx.mono hB⟩
 | it t => obtain ⟨cs, rfl, hx⟩ := h; exact ⟨cs, rfl, hx.mono hB⟩
 | so t => obtain ⟨cs, rfl, hx⟩ := h; exact ⟨cs, rfl, hx.mono hB⟩
 | si t st => obtain ⟨cs, rfl, hx⟩ := h; exact ⟨cs, rfl, hx.mono hB⟩
def bL (B base : Nat) (w : World) (a : Option Addr) (ps : List ch) : Prop := ∃ vs, (vs = [] \/ ∃ g, a = some ⟨g, 0, none⟩ /\ base <= g /\ g < w.heap.size /\ (∃ cur, w.heap[g]? = some (.cells cur 105 (0, 0))) /\ ∀ (k : Nat) v, vs[k]? = some v -> w.cell? ⟨g, k, none⟩ = some v) /\ vs.length = ps.length /\ ∀ (i : Nat) p, ps[i]? = some p -> ∃ v, vs[i]? = some v /\ cj B w v p
theorem Ao (na ea : Option Addr) (nn nc en ec : Nat) (w : World) : Calls Tryz.prog 57 #[.agg #[.slice na nn nc, .slice ea en ec]] w fun e w' => e = .returned (.iface 129 (.agg #[.slice na nn nc, .slice ea en ec])) /\ Below w.heap.size w w' := by
 obtain ⟨W0, u0, hW0, hu0, hsz, hbe, hce⟩ := bg w [.slice na nn nc, .slice ea en ec] 58;have e0 := fun u => hce u 0 _ rfl
 have e1 := fun u => hce u 1 _ rfl
 have x0 := hce u0 0 _ rfl;have x1 := hce u0 1 _ rfl;rw [<- hu0, <- hW0] at x0 x1;have HBE := aa (hbe u0);rw [<- hu0, <- hW0] at HBE;clear hbe hW0 hu0 hsz hce e0 e1;go_enter Tryz.func57, Tryz.ntmps57;go_wp2_with fail;go_ret;exact ⟨by rfl, HBE.out⟩
theorem Sq420623 {P : Prop} (h : P := by
 exact Sq583502) : P := h
theorem Sq583502 {P : Prop} (h : P := by
 refine ⟨vs, hcell, by have := HO.out.1; have := HN.out; simp; omega, fun i p hp => ?_⟩;rw [List.getElem?_map] at hp;obtain ⟨x, hx, rfl⟩ := Option.map_eq_some_iff.1 hp;obtain ⟨v, h1, h2⟩ := HV.out i x (by have := (List.getElem?_eq_some_iff.1 hx).1; have := HN.out; omega) hx;exact ⟨v, h1, h2.below HB.out hB⟩) : P := h
theorem BC (az : List lL) (xa : Option Addr) (xc B : Nat) (w : World) (hSl : aZ xa az.length xc) (hR : cg (iT B w) 2 B w xa az) (hB : B <= w.heap.size) (hle : az.length <= 1048576) :
    Calls Tryz.prog 56 #[.slice xa az.length xc, .func (.func 57) #[] #[]] w fun e w' => ∃ a c, e = .returned (.slice a az.length c) /\ aZ a az.length c /\ bL B w.heap.size w' a (az.map ch.pt) /\ Below w.heap.size w w' := by
 obtain ⟨i0, hi, hz0, hz1, hz2⟩ := info_parts Tryz.infoPart;have I0 := aa hi;have I1 := aa hz0;have I2 := aa hz1;have I3 := aa hz2;clear hi hz0 hz1 hz2;obtain ⟨n, hn⟩ := nam az.length;rw [hn] at hSl hle ⊢;have HN := aa hn;have hsc := hSl.1;have HAT : Hid (∀ (j : Nat) t, az[j]? = some t -> ∃ bb off cs, xa = some ⟨bb, off, none⟩ /\ bb < B /\ (∀ (u : { v : World // Below w.heap.size w v }) (q : Nat) v, cs[q]? = some v -> u.1.cell? ⟨bb, off + j * 2 + q, none⟩ = some v) /\ iT B w cs t) := aa (fun j t ht => by obtain ⟨bb, off, cs, h1, h2, h3, h4, h5⟩ := hR.at_gen (U := { v : World // Below w.heap.size w v }) (f := fun u => u.1) (R := fun (_ : World) => iT B w) (C := w.heap.size) hB (fun u => u.2) (fun u cs x h => h) ht; exact ⟨bb, off, cs, h1, h2, h4, h5 ⟨w, Below.refl _ _⟩⟩);clear hR hSl hn;go_enter Tryz.func56, Tryz.ntmps56;go_wp2_with fail
 go_loopw [5, 10] (fun pv iv wr => ∃ (j : Nat) (vs : List Value), iv = .int .i64 j /\ Hid (wr.ownsRow w.heap.size 105 1 pv j vs) /\ j <= n /\ Hid (∀ (i : Nat) x, i < j -> az[i]? = some x -> ∃ v, vs[i]? = some v /\ cj B w v (.pt x)) /\ Hid (Below w.heap.size w wr)) (fun _ iv _ => n - (intOf iv).toNat)
 case atStart => exact ⟨0, [], rfl, aa (World.ownsRow_nil _ _ _ _), Nat.zero_le _, aa (fun i x hi => by omega), aa (Below.refl _ _)⟩
 case round =>
  obtain ⟨j, vs, rfl, HO, hj, HV, HB⟩ := hrel
  by_cases hlt : j < n
  ·have hlt' : (j : Int) < n := by omega
   have hj0 : (0 : Int) <= (j : Int) := by omega
   have hwi : IntKind.i64.wrap ((j : Int) + 1) = (j : Int) + 1 := IntWalk.i64_in _ (by omega);obtain ⟨t2, ht2⟩ := aB (l := az) (j := j) (by have := HN.out; omega);obtain ⟨eb, eo, cs2, rfl, heb, hcs, cW⟩ := HAT.out j t2 ht2;have HT2 := aa ht2;have HP : Hid (cj B w (.iface 129 (.agg (List.toArray cs2))) (.pt t2)) := aa ⟨cs2, rfl, cW⟩;clear ht2;obtain ⟨nl2, el2⟩ := t2;obtain ⟨na2, nc2, ea2, ec2, rfl, -⟩ := cW;have g0 : wr.cell? ⟨eb, eo + j * 2, none⟩ = _ := hcs ⟨wr, HB.out⟩ 0 _ rfl;have g1 := hcs ⟨wr, HB.out⟩ 1 _ rfl;clear hcs;simp only at g0 g1;generalize nl2.length = nn at *;generalize el2.length = en at *;obtain ⟨W4, hW4⟩ : ∃ W4, wr.alloc (.cells #[.slice na2 nn nc2, .slice ea2 en ec2] 58) = W4 := ⟨_, rfl⟩;have hb4 : Below wr.heap.size wr W4 := by rw [<- hW4]; exact (Below.refl _ _).alloc (Nat.le_refl _) _
   have hx4 : ae W4 wr.heap.size [.slice na2 nn nc2, .slice ea2 en ec2] 58 := by rw [<- hW4]; exact ae.new _ _ _
   have z0 := hx4.cell (i := 0) rfl;have z1 := hx4.cell (i := 1) rfl;rw [<- hW4] at z0 z1;have HCL := aa (Ao na2 ea2 nn nc2 en ec2 W4);have HB4 := aa hb4;have HW4 := aa hW4;clear hb4 hx4 hW4;go_wp2_with fail;rw [HW4.out];refine HCL.out.mono ?_;rintro e w2 ⟨rfl, hb2⟩;have HB2 : Hid (Below w.heap.size w w2) := aa (HB.out.trans ((HB4.out.mono HB.out.size).trans (hb2.mono (Nat.le_trans HB.out.size HB4.out.size))));have HO2 : Hid (w2.ownsRow w.heap.size 105 1 u5 j vs) := aa (ct HO.out (HB4.out.trans (hb2.mono HB4.out.size)));have hlv : vs.length = j := by have := HO.out.1; omega
   have hszw : w.heap.size <= w2.heap.size := HB2.out.size;clear hb2;go_wp2_with (at_builtin; refine wpList_append_own _ rfl _ _ 101 rfl w.heap.size 105 i0 .nilIface 1 16 Tryz.underlying101 I0.out I1.out I2.out I3.out rfl (by omega) u5 j vs rfl (HO2.out.alloc _) ⟨w2.heap.size, 0, none⟩ 1 1 [.iface 129 (.agg #[.slice na2 nn nc2, .slice ea2 en ec2])] rfl rfl (World.news_of_block (cs := #[.iface 129 (.agg #[.slice na2 nn nc2, .slice ea2 en ec2])]) (t := 105) (fr := (0, 0)) (heap_alloc_new _ _)) (by simp [Value.oneCell']) (by unfold maxLen; omega) (by omega) (by simp; omega) ?_);intro v1 w4 hown1 hgrow _;have HO1 : Hid (w4.ownsRow w.heap.size 105 1 v1 (j + 1) (vs ++ [.iface 129 (.agg #[.slice na2 nn nc2, .slice ea2 en ec2])])) := aa hown1;have HBF : Hid (Below w.heap.size w w4) := aa (Below.grown (HB2.out.alloc (by omega) _) hgrow (by simp; omega) (fun k hk => (HO2.out.lt k hk).1));have HLV := aa hlv;clear hown1 hgrow hlv;go_wp2_with fail;go_roundw;case rel => exact ⟨j + 1, _, by go_num, HO1, by omega, aa (fun i y hi hy => (Nat.lt_or_ge i j).elim (fun h => by obtain ⟨v, h1, h2⟩ := HV.out i y h hy; exact ⟨v, by rw [List.getElem?_append_left (by have := HLV.out; omega)]; exact h1, h2⟩) (fun h => by rw [show i = j from by omega, HT2.out] at hy; rw [<- Option.some.inj hy]; exact ⟨_, by rw [show i = j from by omega, List.getElem?_append_right (by have := HLV.out; omega), HLV.out]; simp, HP.out⟩)), HBF⟩
   case measure => simp [intOf]; omega
  ·have hlt' : ¬ (j : Int) < n := by omega
   have hjn : j = n := by omega
   obtain ⟨a, c, hpv, hs, hcell⟩ := eC HO.out;have HPR : bL B w.heap.size wr a (az.map ch.pt) := by
    exact Sq420623
   have HR : Hid (∃ a c, u5 = .slice a n c /\ aZ a n c /\ bL B w.heap.size wr a (az.map ch.pt)) := aa ⟨a, c, by rw [hpv, hjn], by rw [<- hjn]; exact hs, HPR⟩;clear HPR;clear hpv hs hcell hjn;go_wp2_with fail;go_ret;obtain ⟨a, c, h1, h2, h3⟩ := HR.out;exact ⟨a, c, by rw [<- h1]; rfl, h2, h3, HB.out⟩
theorem Sq819456 {P : Prop} (h : P := by
 obtain ⟨W0, u0, hW0, hu0, hsz, hbe, hce⟩ := bg w [.int .i64 op, .string nm, .int .i64 k, .bool b9, .int .i64 i, .string s, .slice la ll lc, .slice ka kn kc, .slice na nn nc, .slice xa xn xc] 66;obtain ⟨e0, e1, e2, e3, e4, e5, e6, e7, e8, e9⟩ := ce10 hce;obtain ⟨x0, x1, x2, x3, x4, x5, x6, x7, x8, x9⟩ := cx10 hce u0;rw [<- hu0, <- hW0] at x0 x1 x2 x3 x4 x5 x6 x7 x8 x9;have HBE := aa (hbe u0);rw [<- hu0, <- hW0] at HBE;clear hbe hW0 hu0 hsz hce e0 e1 e2 e3 e4 e5 e6 e7 e8 e9
 first
 | (guard_hyp z819456a; go_enter Tryz.func59, Tryz.ntmps59)
 | (guard_hyp z819456b; go_enter Tryz.func65, Tryz.ntmps65)
 | (go_enter Tryz.func64, Tryz.ntmps64)
 go_wp2_with fail;go_ret;exact ⟨by rfl, HBE.out⟩) : P := h
theorem Ap (op : Int) (nm : ByteArray) (k : Int) (b9 : Bool) (i : Int) (s : ByteArray) (la : Option Addr) (ll lc : Nat) (ka : Option Addr) (kn kc : Nat) (na : Option Addr) (nn nc : Nat) (xa : Option Addr) (xn xc : Nat) (w : World) : Calls Tryz.prog 59 #[.agg #[.int .i64 op, .string nm, .int .i64 k, .bool b9, .int .i64 i, .string s, .slice la ll lc, .slice ka kn kc, .slice na nn nc, .slice xa xn xc]] w fun e w' => e = .returned (.iface 132 (.agg #[.int .i64 op, .string nm, .int .i64 k, .bool b9, .int .i64 i, .string s, .slice la ll lc, .slice ka kn kc, .slice na nn nc, .slice xa xn xc])) /\ Below w.heap.size w w' := by
 have z819456a := trivial;exact Sq819456
set_option maxRecDepth 100000 in
theorem Sq226463 {P : Prop} (h : P := by
 obtain ⟨i0, hi, hz0, hz1, hz2⟩ := info_parts Tryz.infoPart;have I0 := aa hi;have I1 := aa hz0;have I2 := aa hz1;have I3 := aa hz2;clear hi hz0 hz1 hz2;obtain ⟨n, hn⟩ := nam az.length;rw [hn] at hSl hle ⊢;have HN := aa hn;have hsc := hSl.1;have HAT : Hid (∀ (j : Nat) t, az[j]? = some t -> ∃ bb off cs, xa = some ⟨bb, off, none⟩ /\ bb < B /\ (∀ (u : { v : World // Below w.heap.size w v }) (q : Nat) v, cs[q]? = some v -> u.1.cell? ⟨bb, off + j * 10 + q, none⟩ = some v) /\ bK B w cs t) := aa (fun j t ht => by obtain ⟨bb, off, cs, h1, h2, h3, h4, h5⟩ := hR.at_gen (U := { v : World // Below w.heap.size w v }) (f := fun u => u.1) (R := fun (_ : World) => bK B w) (C := w.heap.size) hB (fun u => u.2) (fun u cs x h => h) ht; exact ⟨bb, off, cs, h1, h2, h4, h5 ⟨w, Below.refl _ _⟩⟩);clear hR hSl hn;go_enter Tryz.func58, Tryz.ntmps58;go_wp2_with fail
 go_loopw [5, 10] (fun pv iv wr => ∃ (j : Nat) (vs : List Value), iv = .int .i64 j /\ Hid (wr.ownsRow w.heap.size 105 1 pv j vs) /\ j <= n /\ Hid (∀ (i : Nat) x, i < j -> az[i]? = some x -> ∃ v, vs[i]? = some v /\ cj B w v (.ex x)) /\ Hid (Below w.heap.size w wr)) (fun _ iv _ => n - (intOf iv).toNat)
 case atStart => exact ⟨0, [], rfl, aa (World.ownsRow_nil _ _ _ _), Nat.zero_le _, aa (fun i x hi => by omega), aa (Below.refl _ _)⟩
 case round =>
  obtain ⟨j, vs, rfl, HO, hj, HV, HB⟩ := hrel
  by_cases hlt : j < n
  ·have hlt' : (j : Int) < n := by omega
   have hj0 : (0 : Int) <= (j : Int) := by omega
   have hwi : IntKind.i64.wrap ((j : Int) + 1) = (j : Int) + 1 := IntWalk.i64_in _ (by omega);obtain ⟨t2, ht2⟩ := aB (l := az) (j := j) (by have := HN.out; omega);obtain ⟨eb, eo, cs2, rfl, heb, hcs, cW⟩ := HAT.out j t2 ht2;have HT2 := aa ht2;have HP : Hid (cj B w (.iface 132 (.agg (List.toArray cs2))) (.ex t2)) := aa ⟨cs2, rfl, cW⟩;clear ht2;obtain ⟨op2, nm2, v2, ns2, az2⟩ := t2;obtain ⟨k2, b92, i2, s2, l2, ks2, la2, lc2, ka2, kc2, na2, nc2, xa2, xc2, -, rfl, -⟩ := cW.cells;have g0 : wr.cell? ⟨eb, eo + j * 10, none⟩ = _ := hcs ⟨wr, HB.out⟩ 0 _ rfl;have g1 := hcs ⟨wr, HB.out⟩ 1 _ rfl;have g2 := hcs ⟨wr, HB.out⟩ 2 _ rfl;have g3 := hcs ⟨wr, HB.out⟩ 3 _ rfl;have g4 := hcs ⟨wr, HB.out⟩ 4 _ rfl;have g5 := hcs ⟨wr, HB.out⟩ 5 _ rfl;have g6 := hcs ⟨wr, HB.out⟩ 6 _ rfl;have g7 := hcs ⟨wr, HB.out⟩ 7 _ rfl;have g8 := hcs ⟨wr, HB.out⟩ 8 _ rfl;have g9 := hcs ⟨wr, HB.out⟩ 9 _ rfl;clear hcs;clear cW;generalize l2.length = ll at *;generalize ks2.length = kn at *;generalize ns2.length = nn at *;generalize az2.length = xn at *;obtain ⟨W4, hW4⟩ : ∃ W4, wr.alloc (.cells #[.int .i64 op2, .string nm2, .int .i64 k2, .bool b92, .int .i64 i2, .string s2, .slice la2 ll lc2, .slice ka2 kn kc2, .slice na2 nn nc2, .slice xa2 xn xc2] 66) = W4 := ⟨_, rfl⟩;have hb4 : Below wr.heap.size wr W4 := by rw [<- hW4]; exact (Below.refl _ _).alloc (Nat.le_refl _) _
   have hx4 : ae W4 wr.heap.size [.int .i64 op2, .string nm2, .int .i64 k2, .bool b92, .int .i64 i2, .string s2, .slice la2 ll lc2, .slice ka2 kn kc2, .slice na2 nn nc2, .slice xa2 xn xc2] 66 := by rw [<- hW4]; exact ae.new _ _ _
   have z0 := hx4.cell (i := 0) rfl;have z1 := hx4.cell (i := 1) rfl;have z2 := hx4.cell (i := 2) rfl;have z3 := hx4.cell (i := 3) rfl;have z4 := hx4.cell (i := 4) rfl;have z5 := hx4.cell (i := 5) rfl;have z6 := hx4.cell (i := 6) rfl;have z7 := hx4.cell (i := 7) rfl;have z8 := hx4.cell (i := 8) rfl;have z9 := hx4.cell (i := 9) rfl;rw [<- hW4] at z0 z1 z2 z3 z4 z5 z6 z7 z8 z9
   first
   | (guard_hyp z226463a; have HCL := aa (Ap op2 nm2 k2 b92 i2 s2 la2 ll lc2 ka2 kn kc2 na2 nn nc2 xa2 xn xc2 W4))
   | (guard_hyp z226463b; have HCL := aa (yF op2 nm2 k2 b92 i2 s2 la2 ll lc2 ka2 kn kc2 na2 nn nc2 xa2 xn xc2 W4))
   | (have HCL := aa (yE op2 nm2 k2 b92 i2 s2 la2 ll lc2 ka2 kn kc2 na2 nn nc2 xa2 xn xc2 W4))
   have HB4 := aa hb4;have HW4 := aa hW4;clear hb4 hx4 hW4;go_wp2_with fail;rw [HW4.out];refine HCL.out.mono ?_;rintro e w2 ⟨rfl, hb2⟩;have HB2 : Hid (Below w.heap.size w w2) := aa (HB.out.trans ((HB4.out.mono HB.out.size).trans (hb2.mono (Nat.le_trans HB.out.size HB4.out.size))));have HO2 : Hid (w2.ownsRow w.heap.size 105 1 u5 j vs) := aa (ct HO.out (HB4.out.trans (hb2.mono HB4.out.size)));have hlv : vs.length = j := by have := HO.out.1; omega
   have hszw : w.heap.size <= w2.heap.size := HB2.out.size;clear hb2;go_wp2_with (at_builtin; refine wpList_append_own _ rfl _ _ 101 rfl w.heap.size 105 i0 .nilIface 1 16 Tryz.underlying101 I0.out I1.out I2.out I3.out rfl (by omega) u5 j vs rfl (HO2.out.alloc _) ⟨w2.heap.size, 0, none⟩ 1 1 [.iface 132 (.agg #[.int .i64 op2, .string nm2, .int .i64 k2, .bool b92, .int .i64 i2, .string s2, .slice la2 ll lc2, .slice ka2 kn kc2, .slice na2 nn nc2, .slice xa2 xn xc2])] rfl rfl (World.news_of_block (cs := #[.iface 132 (.agg #[.int .i64 op2, .string nm2, .int .i64 k2, .bool b92, .int .i64 i2, .string s2, .slice la2 ll lc2, .slice ka2 kn kc2, .slice na2 nn nc2, .slice xa2 xn xc2])]) (t := 105) (fr := (0, 0)) (heap_alloc_new _ _)) (by simp [Value.oneCell']) (by unfold maxLen; omega) (by omega) (by simp; omega) ?_);intro v1 w4 hown1 hgrow _;have HO1 : Hid (w4.ownsRow w.heap.size 105 1 v1 (j + 1) (vs ++ [.iface 132 (.agg #[.int .i64 op2, .string nm2, .int .i64 k2, .bool b92, .int .i64 i2, .string s2, .slice la2 ll lc2, .slice ka2 kn kc2, .slice na2 nn nc2, .slice xa2 xn xc2])])) := aa hown1;have HBF : Hid (Below w.heap.size w w4) := aa (Below.grown (HB2.out.alloc (by omega) _) hgrow (by simp; omega) (fun k hk => (HO2.out.lt k hk).1));have HLV := aa hlv;clear hown1 hgrow hlv;go_wp2_with fail;go_roundw;case rel => exact ⟨j + 1, _, by go_num, HO1, by omega, aa (fun i y hi hy => (Nat.lt_or_ge i j).elim (fun h => by obtain ⟨v, h1, h2⟩ := HV.out i y h hy; exact ⟨v, by rw [List.getElem?_append_left (by have := HLV.out; omega)]; exact h1, h2⟩) (fun h => by rw [show i = j from by omega, HT2.out] at hy; rw [<- Option.some.inj hy]; exact ⟨_, by rw [show i = j from by omega, List.getElem?_append_right (by have := HLV.out; omega), HLV.out]; simp, HP.out⟩)), HBF⟩
   case measure => simp [intOf]; omega
  ·have hlt' : ¬ (j : Int) < n := by omega
   have hjn : j = n := by omega
   obtain ⟨a, c, hpv, hs, hcell⟩ := eC HO.out;have HPR : bL B w.heap.size wr a (az.map ch.ex) := by
    exact Sq583502
   have HR : Hid (∃ a c, u5 = .slice a n c /\ aZ a n c /\ bL B w.heap.size wr a (az.map ch.ex)) := aa ⟨a, c, by rw [hpv, hjn], by rw [<- hjn]; exact hs, HPR⟩;clear HPR;clear hpv hs hcell hjn;go_wp2_with fail;go_ret;obtain ⟨a, c, h1, h2, h3⟩ := HR.out;exact ⟨a, c, by rw [<- h1]; rfl, h2, h3, HB.out⟩) : P := h
theorem BD (az : List Ex) (xa : Option Addr) (xc B : Nat) (w : World) (hSl : aZ xa az.length xc) (hR : cg (bK B w) 10 B w xa az) (hB : B <= w.heap.size) (hle : az.length <= 1048576) :
    Calls Tryz.prog 58 #[.slice xa az.length xc, .func (.func 59) #[] #[]] w fun e w' => ∃ a c, e = .returned (.slice a az.length c) /\ aZ a az.length c /\ bL B w.heap.size w' a (az.map ch.ex) /\ Below w.heap.size w w' := by
 have z226463a := trivial;exact Sq226463
theorem yE (op : Int) (nm : ByteArray) (k : Int) (b9 : Bool) (i : Int) (s : ByteArray) (la : Option Addr) (ll lc : Nat) (ka : Option Addr) (kn kc : Nat) (na : Option Addr) (nn nc : Nat) (xa : Option Addr) (xn xc : Nat) (w : World) : Calls Tryz.prog 64 #[.agg #[.int .i64 op, .string nm, .int .i64 k, .bool b9, .int .i64 i, .string s, .slice la ll lc, .slice ka kn kc, .slice na nn nc, .slice xa xn xc]] w fun e w' => e = .returned (.iface 132 (.agg #[.int .i64 op, .string nm, .int .i64 k, .bool b9, .int .i64 i, .string s, .slice la ll lc, .slice ka kn kc, .slice na nn nc, .slice xa xn xc])) /\ Below w.heap.size w w' := Sq819456
theorem Aq (az : List Ex) (xa : Option Addr) (xc B : Nat) (w : World) (hSl : aZ xa az.length xc) (hR : cg (bK B w) 10 B w xa az) (hB : B <= w.heap.size) (hle : az.length <= 1048576) :
    Calls Tryz.prog 58 #[.slice xa az.length xc, .func (.func 64) #[] #[]] w fun e w' => ∃ a c, e = .returned (.slice a az.length c) /\ aZ a az.length c /\ bL B w.heap.size w' a (az.map ch.ex) /\ Below w.heap.size w w' := Sq226463
theorem yF (op : Int) (nm : ByteArray) (k : Int) (b9 : Bool) (i : Int) (s : ByteArray) (la : Option Addr) (ll lc : Nat) (ka : Option Addr) (kn kc : Nat) (na : Option Addr) (nn nc : Nat) (xa : Option Addr) (xn xc : Nat) (w : World) : Calls Tryz.prog 65 #[.agg #[.int .i64 op, .string nm, .int .i64 k, .bool b9, .int .i64 i, .string s, .slice la ll lc, .slice ka kn kc, .slice na nn nc, .slice xa xn xc]] w fun e w' => e = .returned (.iface 132 (.agg #[.int .i64 op, .string nm, .int .i64 k, .bool b9, .int .i64 i, .string s, .slice la ll lc, .slice ka kn kc, .slice na nn nc, .slice xa xn xc])) /\ Below w.heap.size w w' := by
 have z819456b := trivial;exact Sq819456
theorem Ar (az : List Ex) (xa : Option Addr) (xc B : Nat) (w : World) (hSl : aZ xa az.length xc) (hR : cg (bK B w) 10 B w xa az) (hB : B <= w.heap.size) (hle : az.length <= 1048576) :
    Calls Tryz.prog 58 #[.slice xa az.length xc, .func (.func 65) #[] #[]] w fun e w' => ∃ a c, e = .returned (.slice a az.length c) /\ aZ a az.length c /\ bL B w.heap.size w' a (az.map ch.ex) /\ Below w.heap.size w w' := by
 have z226463b := trivial;exact Sq226463
theorem Sq881412 {P : Prop} (h : P := by
 first
 | (guard_hyp z881412a; obtain ⟨W0, u0, hW0, hu0, hsz, hbe, hce⟩ := bg w [.int .i64 op, .string nm, .int .i64 k, .bool b9, .int .i64 i, .string s, .slice la ll lc, .slice ka kn kc, .slice na nn nc, .slice xa xn xc, .string fl] 73)
 | (obtain ⟨W0, u0, hW0, hu0, hsz, hbe, hce⟩ := bg w [.int .i64 op, .string nm, .int .i64 k, .bool b9, .int .i64 i, .string s, .slice la ll lc, .slice ka kn kc, .slice na nn nc, .slice xa xn xc, .bool fl] 89)
 obtain ⟨e0, e1, e2, e3, e4, e5, e6, e7, e8, e9, e10⟩ := ce11 hce;obtain ⟨x0, x1, x2, x3, x4, x5, x6, x7, x8, x9, x10⟩ := cx11 hce u0;rw [<- hu0, <- hW0] at x0 x1 x2 x3 x4 x5 x6 x7 x8 x9 x10;have HBE := aa (hbe u0);rw [<- hu0, <- hW0] at HBE;clear hbe hW0 hu0 hsz hce e0 e1 e2 e3 e4 e5 e6 e7 e8 e9 e10
 first
 | (guard_hyp z881412a; go_enter Tryz.func61, Tryz.ntmps61)
 | (go_enter Tryz.func63, Tryz.ntmps63)
 go_wp2_with fail;go_ret;exact ⟨by rfl, HBE.out⟩) : P := h
theorem As (op : Int) (nm : ByteArray) (k : Int) (b9 : Bool) (i : Int) (s : ByteArray) (la : Option Addr) (ll lc : Nat) (ka : Option Addr) (kn kc : Nat) (na : Option Addr) (nn nc : Nat) (xa : Option Addr) (xn xc : Nat) (fl : ByteArray) (w : World) : Calls Tryz.prog 61 #[.agg #[.int .i64 op, .string nm, .int .i64 k, .bool b9, .int .i64 i, .string s, .slice la ll lc, .slice ka kn kc, .slice na nn nc, .slice xa xn xc, .string fl]] w fun e w' => e = .returned (.iface 135 (.agg #[.int .i64 op, .string nm, .int .i64 k, .bool b9, .int .i64 i, .string s, .slice la ll lc, .slice ka kn kc, .slice na nn nc, .slice xa xn xc, .string fl])) /\ Below w.heap.size w w' := by
 have z881412a := trivial;exact Sq881412
set_option maxRecDepth 100000 in
theorem Sq880088 {P : Prop} (h : P := by
 obtain ⟨i0, hi, hz0, hz1, hz2⟩ := info_parts Tryz.infoPart;have I0 := aa hi;have I1 := aa hz0;have I2 := aa hz1;have I3 := aa hz2;clear hi hz0 hz1 hz2;obtain ⟨n, hn⟩ := nam az.length;rw [hn] at hSl hle ⊢;have HN := aa hn;have hsc := hSl.1
 first
 | (guard_hyp z880088a; have HAT : Hid (∀ (j : Nat) t, az[j]? = some t -> ∃ bb off cs, xa = some ⟨bb, off, none⟩ /\ bb < B /\ (∀ (u : { v : World // Below w.heap.size w v }) (q : Nat) v, cs[q]? = some v -> u.1.cell? ⟨bb, off + j * 11 + q, none⟩ = some v) /\ ji B w cs t) := aa (fun j t ht => by obtain ⟨bb, off, cs, h1, h2, h3, h4, h5⟩ := hR.at_gen (U := { v : World // Below w.heap.size w v }) (f := fun u => u.1) (R := fun (_ : World) => ji B w) (C := w.heap.size) hB (fun u => u.2) (fun u cs x h => h) ht; exact ⟨bb, off, cs, h1, h2, h4, h5 ⟨w, Below.refl _ _⟩⟩))
 | (have HAT : Hid (∀ (j : Nat) t, az[j]? = some t -> ∃ bb off cs, xa = some ⟨bb, off, none⟩ /\ bb < B /\ (∀ (u : { v : World // Below w.heap.size w v }) (q : Nat) v, cs[q]? = some v -> u.1.cell? ⟨bb, off + j * 11 + q, none⟩ = some v) /\ jj B w cs t) := aa (fun j t ht => by obtain ⟨bb, off, cs, h1, h2, h3, h4, h5⟩ := hR.at_gen (U := { v : World // Below w.heap.size w v }) (f := fun u => u.1) (R := fun (_ : World) => jj B w) (C := w.heap.size) hB (fun u => u.2) (fun u cs x h => h) ht; exact ⟨bb, off, cs, h1, h2, h4, h5 ⟨w, Below.refl _ _⟩⟩))
 clear hR hSl hn
 first
 | (guard_hyp z880088a; go_enter Tryz.func60, Tryz.ntmps60)
 | (go_enter Tryz.func62, Tryz.ntmps62)
 go_wp2_with fail
 first
 | (guard_hyp z880088a; go_loopw [5, 10] (fun pv iv wr => ∃ (j : Nat) (vs : List Value), iv = .int .i64 j /\ Hid (wr.ownsRow w.heap.size 105 1 pv j vs) /\ j <= n /\ Hid (∀ (i : Nat) x, i < j -> az[i]? = some x -> ∃ v, vs[i]? = some v /\ cj B w v (.it x)) /\ Hid (Below w.heap.size w wr)) (fun _ iv _ => n - (intOf iv).toNat))
 | (go_loopw [5, 10] (fun pv iv wr => ∃ (j : Nat) (vs : List Value), iv = .int .i64 j /\ Hid (wr.ownsRow w.heap.size 105 1 pv j vs) /\ j <= n /\ Hid (∀ (i : Nat) x, i < j -> az[i]? = some x -> ∃ v, vs[i]? = some v /\ cj B w v (.so x)) /\ Hid (Below w.heap.size w wr)) (fun _ iv _ => n - (intOf iv).toNat))
 case atStart => exact ⟨0, [], rfl, aa (World.ownsRow_nil _ _ _ _), Nat.zero_le _, aa (fun i x hi => by omega), aa (Below.refl _ _)⟩
 case round =>
  obtain ⟨j, vs, rfl, HO, hj, HV, HB⟩ := hrel
  by_cases hlt : j < n
  ·have hlt' : (j : Int) < n := by omega
   have hj0 : (0 : Int) <= (j : Int) := by omega
   have hwi : IntKind.i64.wrap ((j : Int) + 1) = (j : Int) + 1 := IntWalk.i64_in _ (by omega);obtain ⟨t2, ht2⟩ := aB (l := az) (j := j) (by have := HN.out; omega);obtain ⟨eb, eo, cs2, rfl, heb, hcs, cW⟩ := HAT.out j t2 ht2;have HT2 := aa ht2
   first
   | (guard_hyp z880088a; have HP : Hid (cj B w (.iface 135 (.agg (List.toArray cs2))) (.it t2)) := aa ⟨cs2, rfl, cW⟩)
   | (have HP : Hid (cj B w (.iface 138 (.agg (List.toArray cs2))) (.so t2)) := aa ⟨cs2, rfl, cW⟩)
   clear ht2;obtain ⟨e2, fl2⟩ := t2;obtain ⟨xe2, rfl, hxe⟩ := cW;obtain ⟨op2, nm2, v2, ns2, az2⟩ := e2;obtain ⟨k2, b92, i2, s2, l2, ks2, la2, lc2, ka2, kc2, na2, nc2, xa2, xc2, -, rfl, -⟩ := hxe.cells;simp only [List.cons_append, List.nil_append] at hcs HP;have g0 : wr.cell? ⟨eb, eo + j * 11, none⟩ = _ := hcs ⟨wr, HB.out⟩ 0 _ rfl;have g1 := hcs ⟨wr, HB.out⟩ 1 _ rfl;have g2 := hcs ⟨wr, HB.out⟩ 2 _ rfl;have g3 := hcs ⟨wr, HB.out⟩ 3 _ rfl;have g4 := hcs ⟨wr, HB.out⟩ 4 _ rfl;have g5 := hcs ⟨wr, HB.out⟩ 5 _ rfl;have g6 := hcs ⟨wr, HB.out⟩ 6 _ rfl;have g7 := hcs ⟨wr, HB.out⟩ 7 _ rfl;have g8 := hcs ⟨wr, HB.out⟩ 8 _ rfl;have g9 := hcs ⟨wr, HB.out⟩ 9 _ rfl;have g10 := hcs ⟨wr, HB.out⟩ 10 _ rfl;clear hcs;clear hxe;generalize l2.length = ll at *;generalize ks2.length = kn at *;generalize ns2.length = nn at *;generalize az2.length = xn at *
   first
   | (guard_hyp z880088a; obtain ⟨W4, hW4⟩ : ∃ W4, wr.alloc (.cells #[.int .i64 op2, .string nm2, .int .i64 k2, .bool b92, .int .i64 i2, .string s2, .slice la2 ll lc2, .slice ka2 kn kc2, .slice na2 nn nc2, .slice xa2 xn xc2, .string fl2] 73) = W4 := ⟨_, rfl⟩)
   | (obtain ⟨W4, hW4⟩ : ∃ W4, wr.alloc (.cells #[.int .i64 op2, .string nm2, .int .i64 k2, .bool b92, .int .i64 i2, .string s2, .slice la2 ll lc2, .slice ka2 kn kc2, .slice na2 nn nc2, .slice xa2 xn xc2, .bool fl2] 89) = W4 := ⟨_, rfl⟩)
   have hb4 : Below wr.heap.size wr W4 := by rw [<- hW4]; exact (Below.refl _ _).alloc (Nat.le_refl _) _
   first
   | (guard_hyp z880088a; have hx4 : ae W4 wr.heap.size [.int .i64 op2, .string nm2, .int .i64 k2, .bool b92, .int .i64 i2, .string s2, .slice la2 ll lc2, .slice ka2 kn kc2, .slice na2 nn nc2, .slice xa2 xn xc2, .string fl2] 73 := by rw [<- hW4]; exact ae.new _ _ _)
   | (have hx4 : ae W4 wr.heap.size [.int .i64 op2, .string nm2, .int .i64 k2, .bool b92, .int .i64 i2, .string s2, .slice la2 ll lc2, .slice ka2 kn kc2, .slice na2 nn nc2, .slice xa2 xn xc2, .bool fl2] 89 := by rw [<- hW4]; exact ae.new _ _ _)
   have z0 := hx4.cell (i := 0) rfl;have z1 := hx4.cell (i := 1) rfl;have z2 := hx4.cell (i := 2) rfl;have z3 := hx4.cell (i := 3) rfl;have z4 := hx4.cell (i := 4) rfl;have z5 := hx4.cell (i := 5) rfl;have z6 := hx4.cell (i := 6) rfl;have z7 := hx4.cell (i := 7) rfl;have z8 := hx4.cell (i := 8) rfl;have z9 := hx4.cell (i := 9) rfl;have z10 := hx4.cell (i := 10) rfl;rw [<- hW4] at z0 z1 z2 z3 z4 z5 z6 z7 z8 z9 z10
   first
   | (guard_hyp z880088a; have HCL := aa (As op2 nm2 k2 b92 i2 s2 la2 ll lc2 ka2 kn kc2 na2 nn nc2 xa2 xn xc2 fl2 W4))
   | (have HCL := aa (At op2 nm2 k2 b92 i2 s2 la2 ll lc2 ka2 kn kc2 na2 nn nc2 xa2 xn xc2 fl2 W4))
   have HB4 := aa hb4;have HW4 := aa hW4;clear hb4 hx4 hW4;go_wp2_with fail;rw [HW4.out];refine HCL.out.mono ?_;rintro e w2 ⟨rfl, hb2⟩;have HB2 : Hid (Below w.heap.size w w2) := aa (HB.out.trans ((HB4.out.mono HB.out.size).trans (hb2.mono (Nat.le_trans HB.out.size HB4.out.size))));have HO2 : Hid (w2.ownsRow w.heap.size 105 1 u5 j vs) := aa (ct HO.out (HB4.out.trans (hb2.mono HB4.out.size)));have hlv : vs.length = j := by have := HO.out.1; omega
   have hszw : w.heap.size <= w2.heap.size := HB2.out.size;clear hb2
   first
   | (guard_hyp z880088a; go_wp2_with (at_builtin; refine wpList_append_own _ rfl _ _ 101 rfl w.heap.size 105 i0 .nilIface 1 16 Tryz.underlying101 I0.out I1.out I2.out I3.out rfl (by omega) u5 j vs rfl (HO2.out.alloc _) ⟨w2.heap.size, 0, none⟩ 1 1 [.iface 135 (.agg #[.int .i64 op2, .string nm2, .int .i64 k2, .bool b92, .int .i64 i2, .string s2, .slice la2 ll lc2, .slice ka2 kn kc2, .slice na2 nn nc2, .slice xa2 xn xc2, .string fl2])] rfl rfl (World.news_of_block (cs := #[.iface 135 (.agg #[.int .i64 op2, .string nm2, .int .i64 k2, .bool b92, .int .i64 i2, .string s2, .slice la2 ll lc2, .slice ka2 kn kc2, .slice na2 nn nc2, .slice xa2 xn xc2, .string fl2])]) (t := 105) (fr := (0, 0)) (heap_alloc_new _ _)) (by simp [Value.oneCell']) (by unfold maxLen; omega) (by omega) (by simp; omega) ?_))
   | (go_wp2_with (at_builtin; refine wpList_append_own _ rfl _ _ 101 rfl w.heap.size 105 i0 .nilIface 1 16 Tryz.underlying101 I0.out I1.out I2.out I3.out rfl (by omega) u5 j vs rfl (HO2.out.alloc _) ⟨w2.heap.size, 0, none⟩ 1 1 [.iface 138 (.agg #[.int .i64 op2, .string nm2, .int .i64 k2, .bool b92, .int .i64 i2, .string s2, .slice la2 ll lc2, .slice ka2 kn kc2, .slice na2 nn nc2, .slice xa2 xn xc2, .bool fl2])] rfl rfl (World.news_of_block (cs := #[.iface 138 (.agg #[.int .i64 op2, .string nm2, .int .i64 k2, .bool b92, .int .i64 i2, .string s2, .slice la2 ll lc2, .slice ka2 kn kc2, .slice na2 nn nc2, .slice xa2 xn xc2, .bool fl2])]) (t := 105) (fr := (0, 0)) (heap_alloc_new _ _)) (by simp [Value.oneCell']) (by unfold maxLen; omega) (by omega) (by simp; omega) ?_))
   intro v1 w4 hown1 hgrow _
   first
   | (guard_hyp z880088a; have HO1 : Hid (w4.ownsRow w.heap.size 105 1 v1 (j + 1) (vs ++ [.iface 135 (.agg #[.int .i64 op2, .string nm2, .int .i64 k2, .bool b92, .int .i64 i2, .string s2, .slice la2 ll lc2, .slice ka2 kn kc2, .slice na2 nn nc2, .slice xa2 xn xc2, .string fl2])])) := aa hown1)
   | (have HO1 : Hid (w4.ownsRow w.heap.size 105 1 v1 (j + 1) (vs ++ [.iface 138 (.agg #[.int .i64 op2, .string nm2, .int .i64 k2, .bool b92, .int .i64 i2, .string s2, .slice la2 ll lc2, .slice ka2 kn kc2, .slice na2 nn nc2, .slice xa2 xn xc2, .bool fl2])])) := aa hown1)
   have HBF : Hid (Below w.heap.size w w4) := aa (Below.grown (HB2.out.alloc (by omega) _) hgrow (by simp; omega) (fun k hk => (HO2.out.lt k hk).1));have HLV := aa hlv;clear hown1 hgrow hlv;go_wp2_with fail;go_roundw;case rel => exact ⟨j + 1, _, by go_num, HO1, by omega, aa (fun i y hi hy => (Nat.lt_or_ge i j).elim (fun h => by obtain ⟨v, h1, h2⟩ := HV.out i y h hy; exact ⟨v, by rw [List.getElem?_append_left (by have := HLV.out; omega)]; exact h1, h2⟩) (fun h => by rw [show i = j from by omega, HT2.out] at hy; rw [<- Option.some.inj hy]; exact ⟨_, by rw [show i = j from by omega, List.getElem?_append_right (by have := HLV.out; omega), HLV.out]; simp, HP.out⟩)), HBF⟩
   case measure => simp [intOf]; omega
  ·have hlt' : ¬ (j : Int) < n := by omega
   have hjn : j = n := by omega
   obtain ⟨a, c, hpv, hs, hcell⟩ := eC HO.out
   first
   |(
    guard_hyp z880088a
    have HPR : bL B w.heap.size wr a (az.map ch.it) := by
     refine ⟨vs, hcell, by have := HO.out.1; have := HN.out; simp; omega, fun i p hp => ?_⟩;rw [List.getElem?_map] at hp;obtain ⟨x, hx, rfl⟩ := Option.map_eq_some_iff.1 hp;obtain ⟨v, h1, h2⟩ := HV.out i x (by have := (List.getElem?_eq_some_iff.1 hx).1; have := HN.out; omega) hx;exact ⟨v, h1, h2.below HB.out hB⟩
    have HR : Hid (∃ a c, u5 = .slice a n c /\ aZ a n c /\ bL B w.heap.size wr a (az.map ch.it)) := aa ⟨a, c, by rw [hpv, hjn], by rw [<- hjn]; exact hs, HPR⟩)
   |(
    have HPR : bL B w.heap.size wr a (az.map ch.so) := by
     refine ⟨vs, hcell, by have := HO.out.1; have := HN.out; simp; omega, fun i p hp => ?_⟩;rw [List.getElem?_map] at hp;obtain ⟨x, hx, rfl⟩ := Option.map_eq_some_iff.1 hp;obtain ⟨v, h1, h2⟩ := HV.out i x (by have := (List.getElem?_eq_some_iff.1 hx).1; have := HN.out; omega) hx;exact ⟨v, h1, h2.below HB.out hB⟩
    have HR : Hid (∃ a c, u5 = .slice a n c /\ aZ a n c /\ bL B w.heap.size wr a (az.map ch.so)) := aa ⟨a, c, by rw [hpv, hjn], by rw [<- hjn]; exact hs, HPR⟩)
   clear HPR;clear hpv hs hcell hjn;go_wp2_with fail;go_ret;obtain ⟨a, c, h1, h2, h3⟩ := HR.out;exact ⟨a, c, by rw [<- h1]; rfl, h2, h3, HB.out⟩) : P := h
theorem BE (az : List mj) (xa : Option Addr) (xc B : Nat) (w : World) (hSl : aZ xa az.length xc) (hR : cg (ji B w) 11 B w xa az) (hB : B <= w.heap.size) (hle : az.length <= 1048576) :
    Calls Tryz.prog 60 #[.slice xa az.length xc, .func (.func 61) #[] #[]] w fun e w' => ∃ a c, e = .returned (.slice a az.length c) /\ aZ a az.length c /\ bL B w.heap.size w' a (az.map ch.it) /\ Below w.heap.size w w' := by
 have z880088a := trivial;exact Sq880088
theorem At (op : Int) (nm : ByteArray) (k : Int) (b9 : Bool) (i : Int) (s : ByteArray) (la : Option Addr) (ll lc : Nat) (ka : Option Addr) (kn kc : Nat) (na : Option Addr) (nn nc : Nat) (xa : Option Addr) (xn xc : Nat) (fl : Bool) (w : World) : Calls Tryz.prog 63 #[.agg #[.int .i64 op, .string nm, .int .i64 k, .bool b9, .int .i64 i, .string s, .slice la ll lc, .slice ka kn kc, .slice na nn nc, .slice xa xn xc, .bool fl]] w fun e w' => e = .returned (.iface 138 (.agg #[.int .i64 op, .string nm, .int .i64 k, .bool b9, .int .i64 i, .string s, .slice la ll lc, .slice ka kn kc, .slice na nn nc, .slice xa xn xc, .bool fl])) /\ Below w.heap.size w w' := Sq881412
theorem BF (az : List oe) (xa : Option Addr) (xc B : Nat) (w : World) (hSl : aZ xa az.length xc) (hR : cg (jj B w) 11 B w xa az) (hB : B <= w.heap.size) (hle : az.length <= 1048576) :
    Calls Tryz.prog 62 #[.slice xa az.length xc, .func (.func 63) #[] #[]] w fun e w' => ∃ a c, e = .returned (.slice a az.length c) /\ aZ a az.length c /\ bL B w.heap.size w' a (az.map ch.so) /\ Below w.heap.size w w' := Sq880088
theorem Au (s : ByteArray) (w : World) : Calls Tryz.prog 67 #[.string s] w fun e w' => e = .returned (.iface 141 (.string s)) /\ Below w.heap.size w w' := by
 go_enter Tryz.func67, Tryz.ntmps67;go_wp2_with fail;go_ret;exact ⟨by rfl, Below.refl _ _⟩
theorem BH (az : List ByteArray) (xa : Option Addr) (xc B : Nat) (w : World) (hSl : aZ xa az.length xc) (hR : co B w xa az) (hB : B <= w.heap.size) (hle : az.length <= 1048576) :
    Calls Tryz.prog 66 #[.slice xa az.length xc, .func (.func 67) #[] #[]] w fun e w' => ∃ a c, e = .returned (.slice a az.length c) /\ aZ a az.length c /\ bL B w.heap.size w' a (az.map ch.nm) /\ Below w.heap.size w w' := by
 obtain ⟨i0, hi, hz0, hz1, hz2⟩ := info_parts Tryz.infoPart;have I0 := aa hi;have I1 := aa hz0;have I2 := aa hz1;have I3 := aa hz2;clear hi hz0 hz1 hz2;obtain ⟨n, hn⟩ := nam az.length;rw [hn] at hSl hle ⊢;have HN := aa hn;have hsc := hSl.1;have HAT : Hid (∀ (j : Nat) t, az[j]? = some t -> ∃ bb off, xa = some ⟨bb, off, none⟩ /\ bb < B /\ ∀ (u : { v : World // Below w.heap.size w v }), u.1.cell? ⟨bb, off + j, none⟩ = some (.string t)) := aa (fun j t ht => hR.at_any (U := { v : World // Below w.heap.size w v }) (f := fun u => u.1) (C := w.heap.size) hB (fun u => u.2) ht);clear hR hSl hn;go_enter Tryz.func66, Tryz.ntmps66;go_wp2_with fail
 go_loopw [5, 10] (fun pv iv wr => ∃ (j : Nat) (vs : List Value), iv = .int .i64 j /\ Hid (wr.ownsRow w.heap.size 105 1 pv j vs) /\ j <= n /\ Hid (∀ (i : Nat) x, i < j -> az[i]? = some x -> ∃ v, vs[i]? = some v /\ cj B w v (.nm x)) /\ Hid (Below w.heap.size w wr)) (fun _ iv _ => n - (intOf iv).toNat)
 case atStart => exact ⟨0, [], rfl, aa (World.ownsRow_nil _ _ _ _), Nat.zero_le _, aa (fun i x hi => by omega), aa (Below.refl _ _)⟩
 case round =>
  obtain ⟨j, vs, rfl, HO, hj, HV, HB⟩ := hrel
  by_cases hlt : j < n
  ·have hlt' : (j : Int) < n := by omega
   have hj0 : (0 : Int) <= (j : Int) := by omega
   have hwi : IntKind.i64.wrap ((j : Int) + 1) = (j : Int) + 1 := IntWalk.i64_in _ (by omega);obtain ⟨t2, ht2⟩ := aB (l := az) (j := j) (by have := HN.out; omega);obtain ⟨eb, eo, rfl, heb, hcs⟩ := HAT.out j t2 ht2;have HT2 := aa ht2;have HP : Hid (cj B w (.iface 141 (.string t2)) (.nm t2)) := aa rfl;clear ht2;have g0 := hcs ⟨wr, HB.out⟩;clear hcs;have HCL := aa (Au t2 wr);go_wp2_with fail;skip;refine HCL.out.mono ?_;rintro e w2 ⟨rfl, hb2⟩;have HB2 : Hid (Below w.heap.size w w2) := aa (HB.out.trans (hb2.mono HB.out.size));have HO2 : Hid (w2.ownsRow w.heap.size 105 1 u5 j vs) := aa (ct HO.out (hb2));have hlv : vs.length = j := by have := HO.out.1; omega
   have hszw : w.heap.size <= w2.heap.size := HB2.out.size;clear hb2;go_wp2_with (at_builtin; refine wpList_append_own _ rfl _ _ 101 rfl w.heap.size 105 i0 .nilIface 1 16 Tryz.underlying101 I0.out I1.out I2.out I3.out rfl (by omega) u5 j vs rfl (HO2.out.alloc _) ⟨w2.heap.size, 0, none⟩ 1 1 [.iface 141 (.string t2)] rfl rfl (World.news_of_block (cs := #[.iface 141 (.string t2)]) (t := 105) (fr := (0, 0)) (heap_alloc_new _ _)) (by simp [Value.oneCell']) (by unfold maxLen; omega) (by omega) (by simp; omega) ?_);intro v1 w4 hown1 hgrow _;have HO1 : Hid (w4.ownsRow w.heap.size 105 1 v1 (j + 1) (vs ++ [.iface 141 (.string t2)])) := aa hown1;have HBF : Hid (Below w.heap.size w w4) := aa (Below.grown (HB2.out.alloc (by omega) _) hgrow (by simp; omega) (fun k hk => (HO2.out.lt k hk).1));have HLV := aa hlv;clear hown1 hgrow hlv;go_wp2_with fail;go_roundw;case rel => exact ⟨j + 1, _, by go_num, HO1, by omega, aa (fun i y hi hy => (Nat.lt_or_ge i j).elim (fun h => by obtain ⟨v, h1, h2⟩ := HV.out i y h hy; exact ⟨v, by rw [List.getElem?_append_left (by have := HLV.out; omega)]; exact h1, h2⟩) (fun h => by rw [show i = j from by omega, HT2.out] at hy; rw [<- Option.some.inj hy]; exact ⟨_, by rw [show i = j from by omega, List.getElem?_append_right (by have := HLV.out; omega), HLV.out]; simp, HP.out⟩)), HBF⟩
   case measure => simp [intOf]; omega
  ·have hlt' : ¬ (j : Int) < n := by omega
   have hjn : j = n := by omega
   obtain ⟨a, c, hpv, hs, hcell⟩ := eC HO.out;have HPR : bL B w.heap.size wr a (az.map ch.nm) := by
    exact Sq420623
   have HR : Hid (∃ a c, u5 = .slice a n c /\ aZ a n c /\ bL B w.heap.size wr a (az.map ch.nm)) := aa ⟨a, c, by rw [hpv, hjn], by rw [<- hjn]; exact hs, HPR⟩;clear HPR;clear hpv hs hcell hjn;go_wp2_with fail;go_ret;obtain ⟨a, c, h1, h2, h3⟩ := HR.out;exact ⟨a, c, by rw [<- h1]; rfl, h2, h3, HB.out⟩
theorem Av (vr ke lb : ByteArray) (op : Int) (nm : ByteArray) (k : Int) (b9 : Bool) (i : Int) (s : ByteArray) (la : Option Addr) (ll lc : Nat) (ka : Option Addr) (kn kc : Nat) (na : Option Addr) (nn nc : Nat) (xa : Option Addr) (xn xc : Nat) (kd : Int) (cb : Nat) (w : World) (hk : w.cell? ⟨cb, 0, none⟩ = some (.int .i64 kd)) : Calls Tryz.prog 69 #[.agg #[.string vr, .string ke, .string lb, .int .i64 op, .string nm, .int .i64 k, .bool b9, .int .i64 i, .string s, .slice la ll lc, .slice ka kn kc, .slice na nn nc, .slice xa xn xc], .pointer (some ⟨cb, 0, none⟩)] w fun e w' => e = .returned (.iface 145 (.agg #[.string vr, .string ke, .string lb, .int .i64 op, .string nm, .int .i64 k, .bool b9, .int .i64 i, .string s, .slice la ll lc, .slice ka kn kc, .slice na nn nc, .slice xa xn xc, .bool (kd == 6)])) /\ Below w.heap.size w w' := by
 obtain ⟨W0, u0, hW0, hu0, hsz, hbe, hce⟩ := bg w [.string vr, .string ke, .string lb, .int .i64 op, .string nm, .int .i64 k, .bool b9, .int .i64 i, .string s, .slice la ll lc, .slice ka kn kc, .slice na nn nc, .slice xa xn xc] 91;obtain ⟨e0, e1, e2, e3, e4, e5, e6, e7, e8, e9, e10, e11, e12⟩ := ce13 hce;obtain ⟨x0, x1, x2, x3, x4, x5, x6, x7, x8, x9, x10, x11, x12⟩ := cx13 hce u0;rw [<- hu0, <- hW0] at x0 x1 x2 x3 x4 x5 x6 x7 x8 x9 x10 x11 x12;have HBE := aa (hbe u0);rw [<- hu0, <- hW0] at HBE;have y0 := (World.block_lt_of_cell? w ⟨cb, 0, none⟩ hk);have y1 : (w.alloc (.cells #[.string vr, .string ke, .string lb, .int .i64 op, .string nm, .int .i64 k, .bool b9, .int .i64 i, .string s, .slice la ll lc, .slice ka kn kc, .slice na nn nc, .slice xa xn xc] 91)).cell? ⟨cb, 0, none⟩ = some (.int .i64 kd) := by rw [HBE.out.cell (by show cb < _; exact y0)]; exact hk
 obtain ⟨c6, h6⟩ := nam ((kd == 6));rw [h6];clear hbe hW0 hu0 hsz hce y0 hk e0 e1 e2 e3 e4 e5 e6 e7 e8 e9 e10 e11 e12;have hbu : ∀ c : Bool, Program.built Tryz.prog 145 [(0, Value.agg #[.string vr, .string ke, .string lb, .int .i64 op, .string nm, .int .i64 k, .bool b9, .int .i64 i, .string s, .slice la ll lc, .slice ka kn kc, .slice na nn nc, .slice xa xn xc]), (1, Value.bool c)] = some #[.string vr, .string ke, .string lb, .int .i64 op, .string nm, .int .i64 k, .bool b9, .int .i64 i, .string s, .slice la ll lc, .slice ka kn kc, .slice na nn nc, .slice xa xn xc, .bool c] := fun _ => by kernel_rfl
 cases c6 <;>
 · go_enter Tryz.func69, Tryz.ntmps69
   go_wp2_with fail;go_ret;exact ⟨by rfl, HBE.out⟩
end Go.Proofs.YteljlahcdipilaaGreat

/- Parts Q23, Q70 of this seat (pruned, scripts that are alike kept once as default arguments: q1, q2, ..). Conditions: each says its own. -/
import Derived.Test.YteljlahcdipilaaGreatG31
set_option linter.unusedSimpArgs false
set_option linter.unusedVariables false
set_option maxRecDepth 1000000
set_option maxHeartbeats 64000000
namespace Go.Proofs.YteljlahcdipilaaGreat
open Go.RowKit Go.Shelf
theorem iY {bp : Nat} {a : Option Addr} {cap : Nat} {L : List (am × Nat)} {w u : World} {k : Nat} (s : St bp a cap L w k u) (hT : Tk L) (hk : k < L.length) {K : Nat} (hK : K ≠ 6) {t : List UInt8} {b : Bool} {k1 : Nat} (hb : ck K t (aA L k) = b) (h1 : (if b = true then k + 1 else k) = k1) :
    Calls Tryz.prog 103 #[.pointer (some ⟨bp, 0, none⟩), .int .i64 K, .string (ai t)] u fun e u' => e = .returned (.bool b) /\ k1 < L.length /\ Mv bp k1 u u' := by
 subst h1;cases b with
 | true => exact (cp s hk hb).mono fun e u' h => ⟨h.1, hT.next hk hb hK, h.2⟩
 | false => exact (cq s hk hb).mono fun e u' h => ⟨h.1, hk, h.2⟩
theorem rl {L : List (am × Nat)} {k k1 : Nat} {b : Bool} (h1 : (if b = true then k + 1 else k) = k1) : (if b = true then aA L (k + 1) else aA L k) = aA L k1 := by subst h1; cases b <;> rfl
structure AJ (bp : Nat) (a : Option Addr) (cap : Nat) (L : List (am × Nat)) (w : World) (f b4 kb : Nat) (d : Int) (x : Pr) (k : Nat) (var ty : ByteArray) (ks : List ByteArray) (vs : List Ex) (S1 S2 : Nat -> Prop) (ka : Option Addr) (kc : Nat) (xa : Option Addr) (xc : Nat) (u : World) : Prop where
  st : St bp a cap L w k u
  lt : k < L.length
  ge : kb <= k
  r4 : ae u w.heap.size [.string ⟨#[]⟩, .string ⟨#[]⟩, .int .i64 0, .slice none 0 0, .slice none 0 0] 87
  r5 : ae u b4 [.string var, .string ty, .int .i64 d, .slice ka ks.length kc, .slice xa vs.length xc] 87
  hk : kZ S1 u ka ks
  sk : aZ ka ks.length kc
  hx : j8 S2 u xa vs
  sx : aZ xa vs.length xc
  lo : (∀ q, S1 q -> b4 + 1 <= q) /\ ∀ q, S2 q -> b4 + 1 <= q
  rn : run f (.edgeE d var ty ks vs) (aA L k) = some x
theorem wN {S2 S3 : Nat -> Prop} {w : World} {var ty : ByteArray} {d : Int} {ka xa : Option Addr} {kc xc : Nat} {ks : List ByteArray} {az : List Ex} (hd : bJ d) (h2 : kZ S2 w ka ks) (s2 : aZ ka ks.length kc) (h3 : j8 S3 w xa az) (s3 : aZ xa az.length xc) :
    HG (fun u => zV u [.string var, .string ty, .int .i64 d, .slice ka ks.length kc, .slice xa az.length xc] ⟨var, ty, d, ks, az⟩) (fun b => S2 b \/ S3 b) w :=
  (HG.and h2 h3).imp fun u h => ⟨ka, kc, xa, xc, rfl, hd, s2, h.1, s3, h.2⟩
theorem wO {f : Nat} (bp : Nat) (a : Option Addr) (cap : Nat) (L : List (am × Nat)) (k : Nat) (w : World) (x : Pr) (h : Ps bp a cap L k w) (hT : Tk L) (hk : k < L.length)  (hr : run (f + 1) (.edge) (aA L k) = some x) :
    Calls Tryz.prog 128 #[.pointer (some ⟨bp, 0, none⟩)] w (PR (fg zV V.edge) bp L k w x) := by
 have hr : Go.Proofs.YteljlahcdipilaaGreat.step (run f) (.edge) (aA L k) = some x := hr;simp only [Go.Proofs.YteljlahcdipilaaGreat.step, aL, ar] at hr;have HT := aa hT;have HK0 := aa hk;have X0 := aa hr;have hbw := h.lt;obtain ⟨u0, hy0⟩ : ∃ u, w.alloc (.cells #[.string ⟨#[]⟩, .string ⟨#[]⟩, .int .i64 0, .slice none 0 0, .slice none 0 0] 87) = u := ⟨_, rfl⟩;have s0 : St bp a cap L w k u0 := by rw [<- hy0]; exact (St.start h).alloc _
 have b0 : ae u0 w.heap.size [.string ⟨#[]⟩, .string ⟨#[]⟩, .int .i64 0, .slice none 0 0, .slice none 0 0] 87 := by rw [<- hy0]; exact ae.new w _ _
 have B0r := aa b0;clear b0;have S0 := aa s0;have HU := aa hy0;clear s0 hy0 h hT hk hr;have z0 := B0r.out.lt;go_enter Tryz.func128, Tryz.ntmps128;go_upto_region 1 with fail;rw [HU.out];have hTh := ah (ae.new u0 [.string ⟨#[]⟩, .string ⟨#[]⟩, .int .i64 0, .slice none 0 0, .slice none 0 0] 87) 0 5 (Nat.le_refl 5);go_upto_region 2 with (first | (refine wpList_store_mid rfl 87 _ _ rfl u0.heap.size 0 #[.string ⟨#[]⟩, .string ⟨#[]⟩, .int .i64 2, .slice none 0 0, .slice none 0 0] rfl rfl hTh (by kernel_rfl) (by simp [Value.oneCell']) ?_))
 go_frame
 obtain ⟨b4, hb4⟩ := nam u0.heap.size;rw [hb4];obtain ⟨u1, hu1⟩ : ∃ u, (u0.alloc (.cells #[.string ⟨#[]⟩, .string ⟨#[]⟩, .int .i64 0, .slice none 0 0, .slice none 0 0] 87)).setCells b4 0 ((#[.string ⟨#[]⟩, .string ⟨#[]⟩, .int .i64 2, .slice none 0 0, .slice none 0 0] : Array Value).toList) = u := ⟨_, rfl⟩;rw [hu1];have zb4 : b4 < u1.heap.size /\ w.heap.size < b4 /\ u0.heap.size <= u1.heap.size /\ u0.heap.size = b4 := by have := B0r.out.lt; rw [<- hu1, aQ, <- hb4]; simp <;> omega
 have S1 := aa (show St bp a cap L w k u1 from by rw [<- hu1]; exact (S0.out.alloc _).sets (by have := S0.out.size; omega) 0 _);have B1r := aa (show ae u1 _ _ _ from by rw [<- hu1]; exact (B0r.out.alloc _).of_heap (ak (by have := B0r.out.lt; omega) _ 0 _));have B1b := aa (show ae u1 b4 [.string ⟨#[]⟩, .string ⟨#[]⟩, .int .i64 2, .slice none 0 0, .slice none 0 0] 87 from by rw [<- hu1, <- hb4]; exact (ae.new u0 [.string ⟨#[]⟩, .string ⟨#[]⟩, .int .i64 0, .slice none 0 0, .slice none 0 0] 87).all [.string ⟨#[]⟩, .string ⟨#[]⟩, .int .i64 2, .slice none 0 0, .slice none 0 0] rfl);clear hu1 hb4 hTh;have XE := X0.out;clear XE;obtain ⟨b6, hb6⟩ := nam (ck 5 [60] (aA L k));obtain ⟨k1, hk1⟩ := nam ((if b6 = true then k + 1 else k));have Hb6 := aa hb6;have Hk1 := aa hk1;clear hb6 hk1;go_wp2_with (go_at_call 103; refine af.out ?_);refine af.mk ?_;refine (iY S1.out HT.out HK0.out (by decide) Hb6.out Hk1.out).mono ?_;rintro e u2 ⟨rfl, l2, m2⟩;have HK2 := aa l2;have qk1 : k <= k1 := by rw [<- Hk1.out]; split <;> omega
 clear l2;have S2 := aa (S1.out.call m2);have B2r := aa (m2.blk B1r.out (by omega));have B2b := aa (m2.blk B1b.out (by omega));have zw2 := S2.out.size;have zz2 := Mv.size m2;clear m2;obtain ⟨d, hd⟩ : ∃ d : Int, (if b6 = true then 1 else 2) = d := ⟨_, rfl⟩;have HD := aa hd;clear hd;have hd9 : d = 1 \/ d = 2 := by rw [<- HD.out]; cases b6 <;> simp
 have XE := X0.out;simp only [Hb6.out, rl Hk1.out, HD.out] at XE;have X1 := aa XE;clear XE;go_upto_if 6 with fail;go_cut [] (fun wx => Hid (St bp a cap L w k1 wx /\ ae wx w.heap.size [.string ⟨#[]⟩, .string ⟨#[]⟩, .int .i64 0, .slice none 0 0, .slice none 0 0] 87 /\ ae wx b4 [.string ⟨#[]⟩, .string ⟨#[]⟩, .int .i64 d, .slice none 0 0, .slice none 0 0] 87));case first =>
  cases b6 with
  | true =>
   have hd1 : d = 1 := by rw [<- HD.out]; rfl
   subst hd1;have c2 := B2b.out.cell (i := 2) rfl;have d2 := B2b.out.free 2;go_wp2_with fail;go_meet;exact aa ⟨S2.out.set (by omega) 2 _, B2r.out.of_heap (Below.heap_setCell _ ⟨b4, 2, none⟩ _ _ (by show w.heap.size ≠ b4; omega)), B2b.out.set 2 _⟩
  | false =>
   have hd1 : d = 2 := by rw [<- HD.out]; rfl
   subst hd1;go_wp2_with fail;go_meet;exact aa ⟨S2.out, B2r.out, B2b.out⟩
 case rest =>
  have hc := hcut.out;obtain ⟨u3, hu⟩ := nam wc;rw [hu] at hc ⊢;clear hu hcut;have S3 := aa hc.1;have B3r := aa hc.2.1;have B3b := aa hc.2.2;have z3 := hc.2.2.lt;clear hc;go_wp2_with (go_at_call 118; refine af.out ?_);refine af.mk ?_;refine (bu S3.out HT.out HK2.out X1.out).mono ?_;rintro e u4 (⟨p9, r9, rfl, rfl, f9⟩ | ⟨l4, x4, rfl, m4⟩)
  ·go_wp2_with fail;exact ⟨rfl, f9⟩
  have X4 := aa x4;have HK4 := aa l4;clear x4 l4;have S4 := aa (S3.out.call m4);have B4r := aa (m4.blk B3r.out (by omega));have B4b := aa (m4.blk B3b.out (by omega));have zw4 := S4.out.size;have zz4 := Mv.size m4;clear m4;have XE := X4.out;simp only [ar] at XE;have X20 := aa XE;clear XE;obtain ⟨b10, hb10⟩ := nam (ck 5 [91] (aA L (k1 + 1)));obtain ⟨k3, hk3⟩ := nam ((if b10 = true then (k1 + 1) + 1 else (k1 + 1)));have Hb10 := aa hb10;have Hk3 := aa hk3;clear hb10 hk3;go_wp2_with (go_at_call 103; refine af.out ?_);refine af.mk ?_;refine (iY S4.out HT.out HK4.out (by decide) Hb10.out Hk3.out).mono ?_;rintro e u5 ⟨rfl, l5, m5⟩;have HK5 := aa l5;have qk3 : (k1 + 1) <= k3 := by rw [<- Hk3.out]; split <;> omega
  clear l5;have S5 := aa (S4.out.call m5);have B5r := aa (m5.blk B4r.out (by omega));have B5b := aa (m5.blk B4b.out (by omega));have zw5 := S5.out.size;have zz5 := Mv.size m5;clear m5;go_upto_if 11 with fail;go_cut [] (fun wx => ∃ (k9 : Nat) (var ty : ByteArray) (ks : List ByteArray) (vs : List Ex) (S1 S2 : Nat -> Prop) (ka : Option Addr) (kc : Nat) (xa : Option Addr) (xc : Nat), Hid (AJ bp a cap L w f b4 k3 d x k9 var ty ks vs S1 S2 ka kc xa xc wx));case first =>
   cases b10 with
   | false =>
    have e3 : k1 + 1 = k3 := by simpa using Hk3.out
    have XE := X20.out;rw [if_neg (by rw [Hb10.out]; simp), e3] at XE;go_wp2_with fail;go_meet;exact ⟨k3, _, _, [], [], fun _ => False, fun _ => False, none, 0, none, 0, aa ⟨S5.out, HK5.out, Nat.le_refl _, B5r.out, B5b.out, HG.pure _ fun _ => .inl rfl, al, HG.pure _ fun _ => ax, al, ⟨fun _ h => h.elim, fun _ h => h.elim⟩, XE⟩⟩
   | true =>
    have e3 : k1 + 1 + 1 = k3 := by simpa using Hk3.out
    have XE := X20.out;rw [if_pos Hb10.out, e3] at XE;go_wp2_with (go_at_call 119; refine af.out ?_);refine af.mk ?_;refine (pO S5.out HT.out HK5.out).mono ?_;rintro e u6 ⟨var, k4, hmy, q4, l4, rfl, m6⟩;have HK6 := aa l4;simp only [hmy] at XE;have X4 := aa XE;clear XE l4 hmy;have S6 := aa (S5.out.call m6);have B6r := aa (m6.blk B5r.out (by omega));have B6b := aa (m6.blk B5b.out (by omega));have zw6 := S6.out.size;have zz6 := Mv.size m6;clear m6;have c0 := B6b.out.cell (i := 0) rfl;have d0 := B6b.out.free 0;go_upto_region 7 with fail;clear c0 d0;obtain ⟨u7, hu⟩ : ∃ u, (u6.setCell ⟨b4, 0, none⟩ (.string var)) = u := ⟨_, rfl⟩;rw [hu];have S7 := aa (show St bp a cap L w k4 u7 from by rw [<- hu]; exact (S6.out.set (by omega) 0 _));have zz7 : u7.heap.size = u6.heap.size := by rw [<- hu]; simp [World.size_setCell]
    have hk7 : ∀ q, q ≠ b4 -> u7.heap[q]? = u6.heap[q]? := fun q hq => by rw [<- hu, Below.heap_setCell _ ⟨b4, 0, none⟩ _ q hq]
    have B7r := aa (B6r.out.of_heap (hk7 _ (by omega)));have B7b := aa (show ae u7 b4 [.string var, .string ⟨#[]⟩, .int .i64 d, .slice none 0 0, .slice none 0 0] 87 from by rw [<- hu]; exact (B6b.out.set 0 _));clear hu hk7;obtain ⟨b16, hb16⟩ := nam (ck 5 [58] (aA L k4));obtain ⟨k5, hk5⟩ := nam ((if b16 = true then k4 + 1 else k4));have Hb16 := aa hb16;have Hk5 := aa hk5;clear hb16 hk5;go_wp2_with (go_at_call 103; refine af.out ?_);refine af.mk ?_;refine (iY S7.out HT.out HK6.out (by decide) Hb16.out Hk5.out).mono ?_;rintro e u8 ⟨rfl, l8, m8⟩;have HK8 := aa l8;have qk5 : k4 <= k5 := by rw [<- Hk5.out]; split <;> omega
    clear l8;have S8 := aa (S7.out.call m8);have B8r := aa (m8.blk B7r.out (by omega));have B8b := aa (m8.blk B7b.out (by omega));have zw8 := S8.out.size;have zz8 := Mv.size m8;clear m8;go_upto_if 16 with fail;go_cut [] (fun wx => ∃ (ty : ByteArray) (k6 : Nat), Hid (St bp a cap L w k6 wx /\ k6 < L.length /\ k3 <= k6 /\ ae wx w.heap.size [.string ⟨#[]⟩, .string ⟨#[]⟩, .int .i64 0, .slice none 0 0, .slice none 0 0] 87 /\ ae wx b4 [.string var, .string ty, .int .i64 d, .slice none 0 0, .slice none 0 0] 87 /\ run f (.edgeP d var ty) (aA L k6) = some x));case first =>
     cases b16 with
     | false =>
      have e5 : k4 = k5 := by simpa using Hk5.out
      have XE := X4.out;rw [if_neg (by rw [Hb16.out]; simp), e5] at XE;go_wp2_with fail;go_meet;exact ⟨_, k5, aa ⟨S8.out, HK8.out, by omega, B8r.out, B8b.out, XE⟩⟩
     | true =>
      have e5 : k4 + 1 = k5 := by simpa using Hk5.out
      have XE := X4.out;rw [if_pos Hb16.out, ar, e5] at XE;have X5 := aa XE;clear XE;go_wp2_with (go_at_call 120; refine af.out ?_);refine af.mk ?_;refine (gw S8.out HT.out HK8.out X5.out).mono ?_;rintro e u9 (⟨p9, r9, rfl, rfl, f9⟩ | ⟨n9, l9, x9, rfl, m9⟩)
      ·go_wp2_with fail;exact ⟨rfl, f9⟩
      have X9 := aa x9;have HK9 := aa l9;clear x9 l9;have S9 := aa (S8.out.call m9);have B9r := aa (m9.blk B8r.out (by omega));have B9b := aa (m9.blk B8b.out (by omega));have zw9 := S9.out.size;have zz9 := Mv.size m9;clear m9;have c1 := B9b.out.cell (i := 1) rfl;have d1 := B9b.out.free 1;go_wp2_with fail;go_meet;exact ⟨n9, k5 + 1, aa ⟨S9.out.set (by omega) 1 _, HK9.out, by omega, B9r.out.of_heap (Below.heap_setCell _ ⟨b4, 1, none⟩ _ _ (by show w.heap.size ≠ b4; omega)), B9b.out.set 1 _, X9.out⟩⟩
    case rest =>
     obtain ⟨ty, k6, hc⟩ := hcut;have hc := hc.out;obtain ⟨u9, hu⟩ := nam wc;rw [hu] at hc ⊢;clear hu;have S9 := aa hc.1;have HK9 := aa hc.2.1;have q6 := hc.2.2.1;have B9r := aa hc.2.2.2.1;have B9b := aa hc.2.2.2.2.1;have z9 := hc.2.2.2.2.1.lt;have XE := hc.2.2.2.2.2;clear hc;obtain ⟨g, hg⟩ : ∃ g, f = g + 1 := by cases f with | zero => cases XE | succ g => exact ⟨g, rfl⟩
     rw [hg] at XE;have XE : Go.Proofs.YteljlahcdipilaaGreat.step (run g) (.edgeP d var ty) (aA L k6) = some x := XE;simp only [Go.Proofs.YteljlahcdipilaaGreat.step, aL] at XE;have X6 := aa XE;have HG9 := aa hg;clear XE hg;cases h123 : ck 5 [123] (aA L k6) with
     | false =>
      have RY := X6.out;simp only [h123, if_false, Bool.false_eq_true] at RY;have RX := aa RY;clear RY;go_wp2_with (go_at_call 121; refine af.out ?_);refine af.mk ?_;refine (eJ S9.out HK9.out h123).mono ?_;rintro e u10 ⟨rfl, m10⟩;have S10 := aa (S9.out.call m10);have B10r := aa (m10.blk B9r.out (by omega));have B10b := aa (m10.blk B9b.out (by omega));have zw10 := S10.out.size;have zz10 := Mv.size m10;clear m10;go_wp2_with (go_at_call 118; refine af.out ?_);refine af.mk ?_;refine (bu S10.out HT.out HK9.out RX.out).mono ?_;rintro e u11 (⟨p9, r9, rfl, rfl, f9⟩ | ⟨l11, x11, rfl, m11⟩)
      ·go_wp2_with fail;exact ⟨rfl, f9⟩
      have X11 := aa x11;have HK11 := aa l11;clear x11 l11;have S11 := aa (S10.out.call m11);have B11r := aa (m11.blk B10r.out (by omega));have B11b := aa (m11.blk B10b.out (by omega));have zw11 := S11.out.size;have zz11 := Mv.size m11;clear m11;go_wp2_with fail;go_meet;exact ⟨_, var, ty, [], [], fun _ => False, fun _ => False, none, 0, none, 0, aa ⟨S11.out, HK11.out, by omega, B11r.out, B11b.out, HG.pure _ fun _ => .inl rfl, al, HG.pure _ fun _ => ax, al, ⟨fun _ h => h.elim, fun _ h => h.elim⟩, by rw [HG9.out]; exact qZ X11.out 1⟩⟩
     | true =>
      have RY := X6.out;simp only [h123, if_true] at RY;have RX := aa RY;clear RY;go_wp2_with (go_at_call 121; refine af.out ?_);refine af.mk ?_;refine (eJ S9.out HK9.out h123).mono ?_;rintro e u10 ⟨rfl, m10⟩;have S10 := aa (S9.out.call m10);have B10r := aa (m10.blk B9r.out (by omega));have B10b := aa (m10.blk B9b.out (by omega));have zw10 := S10.out.size;have zz10 := Mv.size m10;clear m10;go_wp2_with (go_at_call 122; refine af.out ?_);refine af.mk ?_;refine ((sB g).go2 S10.out HT.out HK9.out RX.out).mono ?_;rintro e u11 (⟨p9, r9, rfl, rfl, f9⟩ | ⟨v11, k11, val11, q11, l11, x11, rfl, ⟨T11, ka11, kc11, xa11, xc11, rfl, hT11, hK11, hX11, hks11, hs11⟩, m11⟩)
      ·go_wp2_with fail;exact ⟨rfl, f9⟩
      have X11 := aa x11;have HK11 := aa l11;clear x11 l11;have S11 := aa (S10.out.call m11);have B11r := aa (m11.blk B10r.out (by omega));have B11b := aa (m11.blk B10b.out (by omega));have zw11 := S11.out.size;have zz11 := Mv.size m11;clear m11;have V11k := aa hK11;clear hK11;have Nk := aa hT11;have V11x := aa hX11;have Nx := Nk;clear hX11;have HSK := aa hks11;have HSX := aa hs11;clear hks11 hs11;have c3 := B11b.out.cell (i := 3) rfl;have d3 := B11b.out.free 3;have c4 := B11b.out.cell (i := 4) rfl;have d4 := B11b.out.free 4;go_upto_region 11 with fail;clear c3 d3 c4 d4;obtain ⟨u12, hu⟩ : ∃ u, ((u11.setCell ⟨b4, 3, none⟩ (.slice ka11 v11.strs.length kc11)).setCell ⟨b4, 4, none⟩ (.slice xa11 v11.exs.length xc11)) = u := ⟨_, rfl⟩;rw [hu];have S12 := aa (show St bp a cap L w k11 u12 from by rw [<- hu]; exact ((S11.out.set (by omega) 3 _).set (by omega) 4 _));have zz12 : u12.heap.size = u11.heap.size := by rw [<- hu]; simp [World.size_setCell]
      have hk12 : ∀ q, q ≠ b4 -> u12.heap[q]? = u11.heap[q]? := fun q hq => by rw [<- hu, Below.heap_setCell _ ⟨b4, 4, none⟩ _ q hq, Below.heap_setCell _ ⟨b4, 3, none⟩ _ q hq]
      have B12r := aa (B11r.out.of_heap (hk12 _ (by omega)));have B12b := aa (show ae u12 b4 [.string var, .string ty, .int .i64 d, .slice ka11 v11.strs.length kc11, .slice xa11 v11.exs.length xc11] 87 from by rw [<- hu]; exact ((B11b.out.set 3 _).set 4 _));have V12k := aa (V11k.out.same (w1 := u12) (fun b hb => hk12 b (fun e => absurd (hT11 _ hb) (by omega))));have V12x := aa (V11x.out.same (w1 := u12) (fun b hb => hk12 b (fun e => absurd (hT11 _ hb) (by omega))));clear hu hk12;go_wp2_with (go_at_call 118; refine af.out ?_);refine af.mk ?_;refine (bu S12.out HT.out HK11.out X11.out).mono ?_;rintro e u13 (⟨p9, r9, rfl, rfl, f9⟩ | ⟨l13, x13, rfl, m13⟩)
      ·go_wp2_with fail;exact ⟨rfl, f9⟩
      have X13 := aa x13;have HK13 := aa l13;clear x13 l13;have S13 := aa (S12.out.call m13);have B13r := aa (m13.blk B12r.out (by omega));have B13b := aa (m13.blk B12b.out (by omega));have V13k := aa (V12k.out.mv m13 (fun h => absurd (Nk.out _ h) (by omega)));have V13x := aa (V12x.out.mv m13 (fun h => absurd (Nx.out _ h) (by omega)));have zw13 := S13.out.size;have zz13 := Mv.size m13;clear m13;go_wp2_with fail;go_meet;exact ⟨_, var, ty, v11.strs, v11.exs, T11, T11, ka11, kc11, xa11, xc11, aa ⟨S13.out, HK13.out, by omega, B13r.out, B13b.out, V13k.out, HSK.out, V13x.out, HSX.out, ⟨fun q h => by have := hT11 q h; omega, fun q h => by have := hT11 q h; omega⟩, by rw [HG9.out]; exact qZ X13.out 1⟩⟩
  case rest =>
   obtain ⟨k9, var, ty, ks, vs, S1, S2, ka, kc, xa, xc, hc⟩ := hcut;have hc := hc.out;obtain ⟨u6, hu⟩ := nam wc;rw [hu] at hc ⊢;clear hu;have S6 := aa hc.st;have HK6 := aa hc.lt;have q9 := hc.ge;have B6r := aa hc.r4;have B6b := aa hc.r5;have z6 := hc.r5.lt;have V6k := aa hc.hk;have V6x := aa hc.hx;have HSK := aa hc.sk;have HSX := aa hc.sx;have Nk := aa hc.lo.1;have Nx := aa hc.lo.2;have XE := hc.rn;clear hc;obtain ⟨kn, hkn⟩ := nam ks.length;obtain ⟨xn, hxn⟩ := nam vs.length;rw [hkn, hxn] at B6b;rw [hkn] at HSK;rw [hxn] at HSX;have HKN := aa hkn;have HXN := aa hxn;clear hkn hxn;obtain ⟨g, hg⟩ : ∃ g, f = g + 1 := by cases f with | zero => cases XE | succ g => exact ⟨g, rfl⟩
   rw [hg] at XE;have XE : Go.Proofs.YteljlahcdipilaaGreat.step (run g) (.edgeE d var ty ks vs) (aA L k9) = some x := XE;simp only [Go.Proofs.YteljlahcdipilaaGreat.step, aL, ar] at XE;have X9 := aa XE;clear XE hg;go_wp2_with (go_at_call 118; refine af.out ?_);refine af.mk ?_;refine (bu S6.out HT.out HK6.out X9.out).mono ?_;rintro e u7 (⟨p9, r9, rfl, rfl, f9⟩ | ⟨l7, x7, rfl, m7⟩)
   ·go_wp2_with fail;exact ⟨rfl, f9⟩
   have X7 := aa x7;have HK7 := aa l7;clear x7 l7;have S7 := aa (S6.out.call m7);have B7r := aa (m7.blk B6r.out (by omega));have B7b := aa (m7.blk B6b.out (by omega));have V7k := aa (V6k.out.mv m7 (fun h => absurd (Nk.out _ h) (by omega)));have V7x := aa (V6x.out.mv m7 (fun h => absurd (Nx.out _ h) (by omega)));have zw7 := S7.out.size;have zz7 := Mv.size m7;clear m7;rcases hd9 with rfl | rfl
   ·skip;have XE := X7.out;simp only [(by decide : ¬ ((1 : Int) = 2)), false_and, if_false] at XE;have X30 := aa XE;clear XE;have e2 := B7b.out.cell (i := 2) rfl;obtain rfl := Option.some.inj X30.out;have hRg := B7b.out.rng;have hTh := ah B7r.out 0 5 (Nat.le_refl 5);go_wp2_with (first | (refine wpList_load_mid rfl 87 _ rfl b4 0 rfl [.string var, .string ty, .int .i64 1, .slice ka kn kc, .slice xa xn xc] _ hRg Tryz.underlying87 rfl (by kernel_rfl) ?_) | (refine wpList_store_mid rfl 87 _ _ rfl w.heap.size 0 #[.string var, .string ty, .int .i64 1, .slice ka kn kc, .slice xa xn xc] rfl rfl hTh (by kernel_rfl) (by simp [Value.oneCell']) ?_));have B99 := B7r.out.all [.string var, .string ty, .int .i64 1, .slice ka kn kc, .slice xa xn xc] rfl;refine bodyPost_ret (results_cell_row (by rfl) _ _ w.heap.size 87 _ (0, 0) _ (by rfl) B99 Tryz.underlying87 rfl (by kernel_rfl)) rfl ?_;exact ⟨(k9 + 1), _, by omega, HK7.out, rfl, rfl, fg.mk ((by have h := wN (var := var) (ty := ty) (d := 1) (by unfold bJ; omega) V7k.out (by rw [HKN.out]; exact HSK.out) V7x.out (by rw [HXN.out]; exact HSX.out); rw [HKN.out, HXN.out] at h; exact h.sets 0 _ (fun h => by rcases h with h | h; exact absurd (Nk.out _ h) (by omega); exact absurd (Nx.out _ h) (by omega)))) (rfl) (fun b h => by rcases h with h | h; have := Nk.out b h; omega; have := Nx.out b h; omega), (S7.out.sets (Nat.le_refl _) 0 _).mv⟩
   ·cases h62 : ck 5 [62] (aA L (k9 + 1)) with
    | false =>
     have XE := X7.out;simp only [h62, Bool.false_eq_true, and_false, if_false] at XE;have X30 := aa XE;clear XE;have e2 := B7b.out.cell (i := 2) rfl;go_wp2_with (go_at_call 103; refine af.out ?_);refine af.mk ?_;refine (cq S7.out HK7.out h62).mono ?_;rintro e u8 ⟨rfl, m8⟩;have S8 := aa (S7.out.call m8);have B8r := aa (m8.blk B7r.out (by omega));have B8b := aa (m8.blk B7b.out (by omega));have V8k := aa (V7k.out.mv m8 (fun h => absurd (Nk.out _ h) (by omega)));have V8x := aa (V7x.out.mv m8 (fun h => absurd (Nx.out _ h) (by omega)));have zw8 := S8.out.size;have zz8 := Mv.size m8;clear m8;clear e2;obtain rfl := Option.some.inj X30.out;have hRg := B8b.out.rng;have hTh := ah B8r.out 0 5 (Nat.le_refl 5);go_wp2_with (first | (refine wpList_load_mid rfl 87 _ rfl b4 0 rfl [.string var, .string ty, .int .i64 2, .slice ka kn kc, .slice xa xn xc] _ hRg Tryz.underlying87 rfl (by kernel_rfl) ?_) | (refine wpList_store_mid rfl 87 _ _ rfl w.heap.size 0 #[.string var, .string ty, .int .i64 2, .slice ka kn kc, .slice xa xn xc] rfl rfl hTh (by kernel_rfl) (by simp [Value.oneCell']) ?_));have B99 := B8r.out.all [.string var, .string ty, .int .i64 2, .slice ka kn kc, .slice xa xn xc] rfl;refine bodyPost_ret (results_cell_row (by rfl) _ _ w.heap.size 87 _ (0, 0) _ (by rfl) B99 Tryz.underlying87 rfl (by kernel_rfl)) rfl ?_;exact ⟨(k9 + 1), _, by omega, HK7.out, rfl, rfl, fg.mk ((by have h := wN (var := var) (ty := ty) (d := 2) (by unfold bJ; omega) V8k.out (by rw [HKN.out]; exact HSK.out) V8x.out (by rw [HXN.out]; exact HSX.out); rw [HKN.out, HXN.out] at h; exact h.sets 0 _ (fun h => by rcases h with h | h; exact absurd (Nk.out _ h) (by omega); exact absurd (Nx.out _ h) (by omega)))) (rfl) (fun b h => by rcases h with h | h; have := Nk.out b h; omega; have := Nx.out b h; omega), (S8.out.sets (Nat.le_refl _) 0 _).mv⟩
    | true =>
     have XE := X7.out;simp only [h62, and_self, if_true, ar] at XE;have X30 := aa XE;clear XE;have e2 := B7b.out.cell (i := 2) rfl;go_wp2_with (go_at_call 103; refine af.out ?_);refine af.mk ?_;refine (cp S7.out HK7.out h62).mono ?_;rintro e u8 ⟨rfl, m8⟩;have S8 := aa (S7.out.call m8);have B8r := aa (m8.blk B7r.out (by omega));have B8b := aa (m8.blk B7b.out (by omega));have V8k := aa (V7k.out.mv m8 (fun h => absurd (Nk.out _ h) (by omega)));have V8x := aa (V7x.out.mv m8 (fun h => absurd (Nx.out _ h) (by omega)));have zw8 := S8.out.size;have zz8 := Mv.size m8;clear m8;have HK8 := aa (HT.out.next HK7.out h62 (by decide));clear e2;have c2 := B8b.out.cell (i := 2) rfl;have d2 := B8b.out.free 2;go_upto_region 15 with fail;clear c2 d2;obtain ⟨u9, hu⟩ : ∃ u, (u8.setCell ⟨b4, 2, none⟩ (.int .i64 0)) = u := ⟨_, rfl⟩;rw [hu];have S9 := aa (show St bp a cap L w ((k9 + 1) + 1) u9 from by rw [<- hu]; exact (S8.out.set (by omega) 2 _));have zz9 : u9.heap.size = u8.heap.size := by rw [<- hu]; simp [World.size_setCell]
     have hk9 : ∀ q, q ≠ b4 -> u9.heap[q]? = u8.heap[q]? := fun q hq => by rw [<- hu, Below.heap_setCell _ ⟨b4, 2, none⟩ _ q hq]
     have B9r := aa (B8r.out.of_heap (hk9 _ (by omega)));have B9b := aa (show ae u9 b4 [.string var, .string ty, .int .i64 0, .slice ka kn kc, .slice xa xn xc] 87 from by rw [<- hu]; exact (B8b.out.set 2 _));have V9k := aa (V8k.out.same (w1 := u9) (fun b hb => hk9 b (fun e => absurd (Nk.out _ hb) (by omega))));have V9x := aa (V8x.out.same (w1 := u9) (fun b hb => hk9 b (fun e => absurd (Nx.out _ hb) (by omega))));clear hu hk9;obtain rfl := Option.some.inj X30.out;have hRg := B9b.out.rng;have hTh := ah B9r.out 0 5 (Nat.le_refl 5);go_wp2_with (first | (refine wpList_load_mid rfl 87 _ rfl b4 0 rfl [.string var, .string ty, .int .i64 0, .slice ka kn kc, .slice xa xn xc] _ hRg Tryz.underlying87 rfl (by kernel_rfl) ?_) | (refine wpList_store_mid rfl 87 _ _ rfl w.heap.size 0 #[.string var, .string ty, .int .i64 0, .slice ka kn kc, .slice xa xn xc] rfl rfl hTh (by kernel_rfl) (by simp [Value.oneCell']) ?_));have B99 := B9r.out.all [.string var, .string ty, .int .i64 0, .slice ka kn kc, .slice xa xn xc] rfl;refine bodyPost_ret (results_cell_row (by rfl) _ _ w.heap.size 87 _ (0, 0) _ (by rfl) B99 Tryz.underlying87 rfl (by kernel_rfl)) rfl ?_;exact ⟨((k9 + 1) + 1), _, by omega, HK8.out, rfl, rfl, fg.mk ((by have h := wN (var := var) (ty := ty) (d := 0) (by unfold bJ; omega) V9k.out (by rw [HKN.out]; exact HSK.out) V9x.out (by rw [HXN.out]; exact HSX.out); rw [HKN.out, HXN.out] at h; exact h.sets 0 _ (fun h => by rcases h with h | h; exact absurd (Nk.out _ h) (by omega); exact absurd (Nx.out _ h) (by omega)))) (rfl) (fun b h => by rcases h with h | h; have := Nk.out b h; omega; have := Nx.out b h; omega), (S9.out.sets (Nat.le_refl _) 0 _).mv⟩
def Pr.rest : Pr -> List am | .ok _ r => r | .bad r => r
def Sh (o : O) (l : List am) : Prop := ∀ x, o = some x -> x.rest.length <= l.length
theorem Sh.le {o : O} {l m : List am} (h : Sh o l) (hm : l.length <= m.length) : Sh o m := fun x hx => Nat.le_trans (h x hx) hm
theorem mA (l : List am) : l.tail.length <= l.length := by rw [List.length_tail]; omega
theorem rm (l : List am) : (fV l).2.length <= l.length := by
 unfold fV; split
 ·exact mA l
 ·exact Nat.le_refl _
theorem mB (p : Prop) [Decidable p] (l : List am) : (if p then l.tail else l).length <= l.length := by
 split
 ·exact mA l
 ·exact Nat.le_refl _
theorem mC {l m : List am} (h : l.length <= m.length) : l.tail.length <= m.length := Nat.le_trans (mA l) h
theorem ro {l m : List am} (h : l.length <= m.length) : (fV l).2.length <= m.length := Nat.le_trans (rm l) h
theorem zY {p : Prop} [Decidable p] {l m : List am} (h : l.length <= m.length) : (if p then l.tail else l).length <= m.length := Nat.le_trans (mB p l) h
theorem zZ {v : V} {r l : List am} (hm : r.length <= l.length) : Sh (dX v r) l := fun x hx => by cases hx; exact hm
theorem jI {r l : List am} (hm : r.length <= l.length) : Sh (some (.bad r)) l := fun x hx => by cases hx; exact hm
theorem wP {o : O} {l : List am} {k : V -> List am -> O} (h : Sh o l) (hk : ∀ v r, r.length <= l.length -> Sh (k v r) l) : Sh (bnd o k) l := by
 intro x hx;cases o with
 | none => cases hx
 | some p => cases p with
  | ok v r => exact hk v r (h _ rfl) x hx
  | bad r => cases hx; exact h _ rfl
theorem sC {b : Bool} {m l : List am} {k : List am -> O} (hm : m.length <= l.length) (hk : ∀ r, r.length <= l.length -> Sh (k r) l) : Sh (must b m k) l := by
 unfold must; split
 ·exact hk _ (mC hm)
 ·exact jI hm
theorem wQ {m l : List am} {k : ByteArray -> List am -> O} (hm : m.length <= l.length) (hk : ∀ s r, r.length <= l.length -> Sh (k s r) l) : Sh (fB m k) l := by
 unfold fB; split
 ·exact hk _ _ (mC hm)
 ·exact jI hm
theorem yW {m l : List am} {k : ByteArray -> List am -> O} (hm : m.length <= l.length) (hk : ∀ s r, r.length <= l.length -> Sh (k s r) l) : Sh (dY m k) l := by
 unfold dY; split
 ·exact hk _ _ (mC hm)
 ·exact jI hm
theorem rp {p : Prop} [Decidable p] {a b : O} {l : List am} (h1 : Sh a l) (h2 : Sh b l) : Sh (if p then a else b) l := by split <;> assumption
theorem yX {rec : G -> List am -> O} (h : ∀ g l, Sh (rec g l) l) : ∀ g l, Sh (step rec g l) l := by
 intro g l;have h' : ∀ {g : G} {m : List am}, m.length <= l.length -> Sh (rec g m) l := fun hm x hx => Nat.le_trans (h _ _ x hx) hm
 cases g <;> simp only [step] <;>
  repeat (first | refine rp ?_ ?_ | refine wP ?_ (fun _ _ _ => ?_) | refine sC ?_ (fun _ _ => ?_) | refine wQ ?_ (fun _ _ _ => ?_) | refine yW ?_ (fun _ _ _ => ?_) | refine h' ?_ | refine zZ ?_ | refine jI ?_ | exact Nat.le_refl _ | assumption | refine mC ?_ | refine ro ?_ | refine zY ?_)
theorem nU : ∀ (f : Nat) (g : G) (l : List am), Sh (run f g l) l
  | 0, _, _ => fun _ hx => by cases hx
  | f + 1, g, l => yX (nU f) g l
theorem sD (L : List (am × Nat)) (k : Nat) : (aA L k).length = L.length - k := by unfold aA; simp
theorem ui {f : Nat} {L : List (am × Nat)} {k k' : Nat} {v : V} (hk : k < L.length) (hk' : k' < L.length) (h : run f .node (aA L k) = some (.ok v (aA L k'))) : k < k' := by
 cases f with
 | zero => cases h
 | succ f =>
  have h : Go.Proofs.YteljlahcdipilaaGreat.step (run f) .node (aA L k) = some (.ok v (aA L k')) := h;simp only [Go.Proofs.YteljlahcdipilaaGreat.step, aL, ar] at h;unfold must at h
  split at h
  ·have hs : Sh (bnd (run f (.labels []) (fV (aA L (k + 1))).2) fun v r => if ck 5 [123] r = true then bnd (run f .props r) fun p r2 => must (ck 5 [41] r2) r2 fun r3 => dX (.np ⟨(fV (aA L (k + 1))).1, v.strs, p.strs, p.exs⟩) r3 else must (ck 5 [41] r) r fun r3 => dX (.np ⟨(fV (aA L (k + 1))).1, v.strs, [], []⟩) r3) (aA L (k + 1)) := by
    have h' : ∀ {g : G} {m : List am}, m.length <= (aA L (k + 1)).length -> Sh (run f g m) (aA L (k + 1)) := fun hm x hx => Nat.le_trans (nU _ _ _ x hx) hm
    repeat (first | refine rp ?_ ?_ | refine wP ?_ (fun _ _ _ => ?_) | refine sC ?_ (fun _ _ => ?_) | refine h' ?_ | refine zZ ?_ | refine jI ?_ | exact Nat.le_refl _ | assumption | refine mC ?_ | refine ro ?_ | refine zY ?_)
   rw [ar] at h;have h2 := hs _ h;have h3 : (aA L k').length <= (aA L (k + 1)).length := h2;rw [sD, sD] at h3;omega
  ·cases h
theorem cL.go3 {bp : Nat} {a : Option Addr} {cap : Nat} {L : List (am × Nat)} {w u : World} {k : Nat} {x : Pr} {F : FuncId} {args : List Value} {g : G} {Rt : V -> Value -> World -> World -> Prop} {f : Nat} (h : cL F args g Rt f) (s : St bp a cap L w k u) (hT : Tk L) (hk : k < L.length) {K : V -> List am -> O} (hx : bnd (run f g (aA L k)) K = some x) :
    Calls Tryz.prog F (List.toArray (.pointer (some ⟨bp, 0, none⟩) :: args)) u fun e u' => og bp L w x e u' \/ ∃ v k' val, k <= k' /\ k' < L.length /\ K v (aA L k') = some x /\ run f g (aA L k) = some (.ok v (aA L k')) /\ e = .returned val /\ Rt v val u u' /\ Mv bp k' u u' := by
 obtain ⟨p, hp, hx⟩ := kY hx;refine (h.go s hT hk hp).mono fun e u' h2 => ?_
 cases p with
 | bad r => exact .inl (og.of s hx h2)
 | ok v r =>
  obtain ⟨k2, val, h1, h3, rfl, h4, h5, h6⟩ := h2;exact .inr ⟨v, k2, val, h1, h3, hx, hp, h4, h5, h6⟩
end Go.Proofs.YteljlahcdipilaaGreat

/- Parts Q23, Q70 of this seat (pruned, scripts that are alike kept once as default arguments: q1, q2, ..). Conditions: each says its own. -/
import Derived.Test.YteljlahcdipilaaGreatF31
namespace Go.Proofs.YteljlahcdipilaaGreat
open Go.RowKit Go.Shelf
set_option linter.unusedSimpArgs false
set_option linter.unusedVariables false
set_option maxRecDepth 100000
theorem skip_b {bp : Nat} {a : Option Addr} {cap : Nat} {L : List (Tok × Nat)} {w u : World} {k : Nat} (s : St bp a cap L w k u) (hT : Tk L) (hk : k < L.length) {K : Nat} (hK : K ≠ 6) {t : List UInt8} {b : Bool} {k1 : Nat} (hb : isT K t (rem L k) = b) (h1 : (if b = true then k + 1 else k) = k1) :
    Calls Tryz.prog 103 #[.pointer (some ⟨bp, 0, none⟩), .int .i64 K, .string (strOf t)] u fun e u' => e = .returned (.bool b) ∧ k1 < L.length ∧ Mv bp k1 u u' := by
 subst h1
 cases b with
 | true => exact (skip_t s hk hb).mono fun e u' h => ⟨h.1, hT.next hk hb hK, h.2⟩
 | false => exact (skip_f s hk hb).mono fun e u' h => ⟨h.1, hk, h.2⟩
theorem rem_if {L : List (Tok × Nat)} {k k1 : Nat} {b : Bool} (h1 : (if b = true then k + 1 else k) = k1) : (if b = true then rem L (k + 1) else rem L k) = rem L k1 := by subst h1; cases b <;> rfl
structure EdgeAt (bp : Nat) (a : Option Addr) (cap : Nat) (L : List (Tok × Nat)) (w : World) (f b4 kb : Nat) (d : Int) (x : Pr) (k : Nat) (var ty : ByteArray) (ks : List ByteArray) (vs : List Ex) (S1 S2 : Nat → Prop) (ka : Option Addr) (kc : Nat) (xa : Option Addr) (xc : Nat) (u : World) : Prop where
  st : St bp a cap L w k u
  lt : k < L.length
  ge : kb ≤ k
  r4 : Block u w.heap.size [.string ⟨#[]⟩, .string ⟨#[]⟩, .int .i64 0, .slice none 0 0, .slice none 0 0] 87
  r5 : Block u b4 [.string var, .string ty, .int .i64 d, .slice ka ks.length kc, .slice xa vs.length xc] 87
  hk : RowK S1 u ka ks
  sk : SlOk ka ks.length kc
  hx : RowX S2 u xa vs
  sx : SlOk xa vs.length xc
  lo : (∀ q, S1 q → b4 + 1 ≤ q) ∧ ∀ q, S2 q → b4 + 1 ≤ q
  rn : run f (.edgeE d var ty ks vs) (rem L k) = some x
theorem mk_ep {S2 S3 : Nat → Prop} {w : World} {var ty : ByteArray} {d : Int} {ka xa : Option Addr} {kc xc : Nat} {ks : List ByteArray} {az : List Ex} (hd : in64 d) (h2 : RowK S2 w ka ks) (s2 : SlOk ka ks.length kc) (h3 : RowX S3 w xa az) (s3 : SlOk xa az.length xc) :
    HG (fun u => REp u [.string var, .string ty, .int .i64 d, .slice ka ks.length kc, .slice xa az.length xc] ⟨var, ty, d, ks, az⟩) (fun b => S2 b ∨ S3 b) w :=
  (HG.and h2 h3).imp fun u h => ⟨ka, kc, xa, xc, rfl, hd, s2, h.1, s3, h.2⟩
set_option maxHeartbeats 8000000 in
theorem edge_any {f : Nat} (bp : Nat) (a : Option Addr) (cap : Nat) (L : List (Tok × Nat)) (k : Nat) (w : World) (x : Pr) (h : Ps bp a cap L k w) (hT : Tk L) (hk : k < L.length)  (hr : run (f + 1) (.edge) (rem L k) = some x) :
    Calls Tryz.prog 128 #[.pointer (some ⟨bp, 0, none⟩)] w (PR (RtN REp V.edge) bp L k w x) := by
 have hr : Go.Proofs.YteljlahcdipilaaGreat.step (run f) (.edge) (rem L k) = some x := hr
 simp only [Go.Proofs.YteljlahcdipilaaGreat.step, sigB, tail_rem] at hr
 have HT := Lib.hid hT
 have HK0 := Lib.hid hk
 have X0 := Lib.hid hr
 have hbw := h.lt
 obtain ⟨u0, hy0⟩ : ∃ u, w.alloc (.cells #[.string ⟨#[]⟩, .string ⟨#[]⟩, .int .i64 0, .slice none 0 0, .slice none 0 0] 87) = u := ⟨_, rfl⟩
 have s0 : St bp a cap L w k u0 := by rw [← hy0]; exact (St.start h).alloc _
 have b0 : Block u0 w.heap.size [.string ⟨#[]⟩, .string ⟨#[]⟩, .int .i64 0, .slice none 0 0, .slice none 0 0] 87 := by rw [← hy0]; exact Block.new w _ _
 have B0r := Lib.hid b0
 clear b0
 have S0 := Lib.hid s0
 have HU := Lib.hid hy0
 clear s0 hy0 h hT hk hr
 have z0 := B0r.out.lt
 go_enter Tryz.func128, Tryz.ntmps128
 go_upto_region 1 with fail
 rw [HU.out]
 have hTh := block_there (Block.new u0 [.string ⟨#[]⟩, .string ⟨#[]⟩, .int .i64 0, .slice none 0 0, .slice none 0 0] 87) 0 5 (Nat.le_refl 5)
 go_upto_region 2 with (first | (refine wpList_store_mid rfl 87 _ _ rfl u0.heap.size 0 #[.string ⟨#[]⟩, .string ⟨#[]⟩, .int .i64 2, .slice none 0 0, .slice none 0 0] rfl rfl hTh (by kernel_rfl) (by simp [Value.oneCell']) ?_))
 go_frame
 obtain ⟨b4, hb4⟩ := nam u0.heap.size
 rw [hb4]
 obtain ⟨u1, hu1⟩ : ∃ u, (u0.alloc (.cells #[.string ⟨#[]⟩, .string ⟨#[]⟩, .int .i64 0, .slice none 0 0, .slice none 0 0] 87)).setCells b4 0 ((#[.string ⟨#[]⟩, .string ⟨#[]⟩, .int .i64 2, .slice none 0 0, .slice none 0 0] : Array Value).toList) = u := ⟨_, rfl⟩
 rw [hu1]
 have zb4 : b4 < u1.heap.size ∧ w.heap.size < b4 ∧ u0.heap.size ≤ u1.heap.size ∧ u0.heap.size = b4 := by have := B0r.out.lt; rw [← hu1, setCells_sz, ← hb4]; simp <;> omega
 have S1 := Lib.hid (show St bp a cap L w k u1 from by rw [← hu1]; exact (S0.out.alloc _).sets (by have := S0.out.size; omega) 0 _)
 have B1r := Lib.hid (show Block u1 _ _ _ from by rw [← hu1]; exact (B0r.out.alloc _).of_heap (cells_other (by have := B0r.out.lt; omega) _ 0 _))
 have B1b := Lib.hid (show Block u1 b4 [.string ⟨#[]⟩, .string ⟨#[]⟩, .int .i64 2, .slice none 0 0, .slice none 0 0] 87 from by rw [← hu1, ← hb4]; exact (Block.new u0 [.string ⟨#[]⟩, .string ⟨#[]⟩, .int .i64 0, .slice none 0 0, .slice none 0 0] 87).all [.string ⟨#[]⟩, .string ⟨#[]⟩, .int .i64 2, .slice none 0 0, .slice none 0 0] rfl)
 clear hu1 hb4 hTh
 have XE := X0.out
 clear XE
 obtain ⟨b6, hb6⟩ := nam (isT 5 [60] (rem L k))
 obtain ⟨k1, hk1⟩ := nam ((if b6 = true then k + 1 else k))
 have Hb6 := Lib.hid hb6
 have Hk1 := Lib.hid hk1
 clear hb6 hk1
 go_wp2_with (go_at_call 103; refine Stand.out ?_)
 refine Stand.mk ?_
 refine (skip_b S1.out HT.out HK0.out (by decide) Hb6.out Hk1.out).mono ?_
 rintro e u2 ⟨rfl, l2, m2⟩
 have HK2 := Lib.hid l2
 have qk1 : k ≤ k1 := by rw [← Hk1.out]; split <;> omega
 clear l2
 have S2 := Lib.hid (S1.out.call m2)
 have B2r := Lib.hid (m2.blk B1r.out (by omega))
 have B2b := Lib.hid (m2.blk B1b.out (by omega))
 have zw2 := S2.out.size
 have zz2 := Mv.size m2
 clear m2
 obtain ⟨d, hd⟩ : ∃ d : Int, (if b6 = true then 1 else 2) = d := ⟨_, rfl⟩
 have HD := Lib.hid hd
 clear hd
 have hd9 : d = 1 ∨ d = 2 := by rw [← HD.out]; cases b6 <;> simp
 have XE := X0.out
 simp only [Hb6.out, rem_if Hk1.out, HD.out] at XE
 have X1 := Lib.hid XE
 clear XE
 go_upto_if 6 with fail
 go_cut [] (fun wx => Hid (St bp a cap L w k1 wx ∧ Block wx w.heap.size [.string ⟨#[]⟩, .string ⟨#[]⟩, .int .i64 0, .slice none 0 0, .slice none 0 0] 87 ∧ Block wx b4 [.string ⟨#[]⟩, .string ⟨#[]⟩, .int .i64 d, .slice none 0 0, .slice none 0 0] 87))
 case first =>
  cases b6 with
  | true =>
   have hd1 : d = 1 := by rw [← HD.out]; rfl
   subst hd1
   have c2 := B2b.out.cell (i := 2) rfl
   have d2 := B2b.out.free 2
   go_wp2_with fail
   go_meet
   exact Lib.hid ⟨S2.out.set (by omega) 2 _, B2r.out.of_heap (Below.heap_setCell _ ⟨b4, 2, none⟩ _ _ (by show w.heap.size ≠ b4; omega)), B2b.out.set 2 _⟩
  | false =>
   have hd1 : d = 2 := by rw [← HD.out]; rfl
   subst hd1
   go_wp2_with fail
   go_meet
   exact Lib.hid ⟨S2.out, B2r.out, B2b.out⟩
 case rest =>
  have hc := hcut.out
  obtain ⟨u3, hu⟩ := nam wc
  rw [hu] at hc ⊢
  clear hu hcut
  have S3 := Lib.hid hc.1
  have B3r := Lib.hid hc.2.1
  have B3b := Lib.hid hc.2.2
  have z3 := hc.2.2.lt
  clear hc
  go_wp2_with (go_at_call 118; refine Stand.out ?_)
  refine Stand.mk ?_
  refine (mustSign_go S3.out HT.out HK2.out X1.out).mono ?_
  rintro e u4 (⟨p9, r9, rfl, rfl, f9⟩ | ⟨l4, x4, rfl, m4⟩)
  ·go_wp2_with fail
   exact ⟨rfl, f9⟩
  have X4 := Lib.hid x4
  have HK4 := Lib.hid l4
  clear x4 l4
  have S4 := Lib.hid (S3.out.call m4)
  have B4r := Lib.hid (m4.blk B3r.out (by omega))
  have B4b := Lib.hid (m4.blk B3b.out (by omega))
  have zw4 := S4.out.size
  have zz4 := Mv.size m4
  clear m4
  have XE := X4.out
  simp only [tail_rem] at XE
  have X20 := Lib.hid XE
  clear XE
  obtain ⟨b10, hb10⟩ := nam (isT 5 [91] (rem L (k1 + 1)))
  obtain ⟨k3, hk3⟩ := nam ((if b10 = true then (k1 + 1) + 1 else (k1 + 1)))
  have Hb10 := Lib.hid hb10
  have Hk3 := Lib.hid hk3
  clear hb10 hk3
  go_wp2_with (go_at_call 103; refine Stand.out ?_)
  refine Stand.mk ?_
  refine (skip_b S4.out HT.out HK4.out (by decide) Hb10.out Hk3.out).mono ?_
  rintro e u5 ⟨rfl, l5, m5⟩
  have HK5 := Lib.hid l5
  have qk3 : (k1 + 1) ≤ k3 := by rw [← Hk3.out]; split <;> omega
  clear l5
  have S5 := Lib.hid (S4.out.call m5)
  have B5r := Lib.hid (m5.blk B4r.out (by omega))
  have B5b := Lib.hid (m5.blk B4b.out (by omega))
  have zw5 := S5.out.size
  have zz5 := Mv.size m5
  clear m5
  go_upto_if 11 with fail
  go_cut [] (fun wx => ∃ (k9 : Nat) (var ty : ByteArray) (ks : List ByteArray) (vs : List Ex) (S1 S2 : Nat → Prop) (ka : Option Addr) (kc : Nat) (xa : Option Addr) (xc : Nat), Hid (EdgeAt bp a cap L w f b4 k3 d x k9 var ty ks vs S1 S2 ka kc xa xc wx))
  case first =>
   cases b10 with
   | false =>
    have e3 : k1 + 1 = k3 := by simpa using Hk3.out
    have XE := X20.out
    rw [if_neg (by rw [Hb10.out]; simp), e3] at XE
    go_wp2_with fail
    go_meet
    exact ⟨k3, _, _, [], [], fun _ => False, fun _ => False, none, 0, none, 0, Lib.hid ⟨S5.out, HK5.out, Nat.le_refl _, B5r.out, B5b.out, HG.pure _ fun _ => .inl rfl, nil_sl, HG.pure _ fun _ => nil_row, nil_sl, ⟨fun _ h => h.elim, fun _ h => h.elim⟩, XE⟩⟩
   | true =>
    have e3 : k1 + 1 + 1 = k3 := by simpa using Hk3.out
    have XE := X20.out
    rw [if_pos Hb10.out, e3] at XE
    go_wp2_with (go_at_call 119; refine Stand.out ?_)
    refine Stand.mk ?_
    refine (maybe_st S5.out HT.out HK5.out).mono ?_
    rintro e u6 ⟨var, k4, hmy, q4, l4, rfl, m6⟩
    have HK6 := Lib.hid l4
    simp only [hmy] at XE
    have X4 := Lib.hid XE
    clear XE l4 hmy
    have S6 := Lib.hid (S5.out.call m6)
    have B6r := Lib.hid (m6.blk B5r.out (by omega))
    have B6b := Lib.hid (m6.blk B5b.out (by omega))
    have zw6 := S6.out.size
    have zz6 := Mv.size m6
    clear m6
    have c0 := B6b.out.cell (i := 0) rfl
    have d0 := B6b.out.free 0
    go_upto_region 7 with fail
    clear c0 d0
    obtain ⟨u7, hu⟩ : ∃ u, (u6.setCell ⟨b4, 0, none⟩ (.string var)) = u := ⟨_, rfl⟩
    rw [hu]
    have S7 := Lib.hid (show St bp a cap L w k4 u7 from by rw [← hu]; exact (S6.out.set (by omega) 0 _))
    have zz7 : u7.heap.size = u6.heap.size := by rw [← hu]; simp [World.size_setCell]
    have hk7 : ∀ q, q ≠ b4 → u7.heap[q]? = u6.heap[q]? := fun q hq => by rw [← hu, Below.heap_setCell _ ⟨b4, 0, none⟩ _ q hq]
    have B7r := Lib.hid (B6r.out.of_heap (hk7 _ (by omega)))
    have B7b := Lib.hid (show Block u7 b4 [.string var, .string ⟨#[]⟩, .int .i64 d, .slice none 0 0, .slice none 0 0] 87 from by rw [← hu]; exact (B6b.out.set 0 _))
    clear hu hk7
    obtain ⟨b16, hb16⟩ := nam (isT 5 [58] (rem L k4))
    obtain ⟨k5, hk5⟩ := nam ((if b16 = true then k4 + 1 else k4))
    have Hb16 := Lib.hid hb16
    have Hk5 := Lib.hid hk5
    clear hb16 hk5
    go_wp2_with (go_at_call 103; refine Stand.out ?_)
    refine Stand.mk ?_
    refine (skip_b S7.out HT.out HK6.out (by decide) Hb16.out Hk5.out).mono ?_
    rintro e u8 ⟨rfl, l8, m8⟩
    have HK8 := Lib.hid l8
    have qk5 : k4 ≤ k5 := by rw [← Hk5.out]; split <;> omega
    clear l8
    have S8 := Lib.hid (S7.out.call m8)
    have B8r := Lib.hid (m8.blk B7r.out (by omega))
    have B8b := Lib.hid (m8.blk B7b.out (by omega))
    have zw8 := S8.out.size
    have zz8 := Mv.size m8
    clear m8
    go_upto_if 16 with fail
    go_cut [] (fun wx => ∃ (ty : ByteArray) (k6 : Nat), Hid (St bp a cap L w k6 wx ∧ k6 < L.length ∧ k3 ≤ k6 ∧ Block wx w.heap.size [.string ⟨#[]⟩, .string ⟨#[]⟩, .int .i64 0, .slice none 0 0, .slice none 0 0] 87 ∧ Block wx b4 [.string var, .string ty, .int .i64 d, .slice none 0 0, .slice none 0 0] 87 ∧ run f (.edgeP d var ty) (rem L k6) = some x))
    case first =>
     cases b16 with
     | false =>
      have e5 : k4 = k5 := by simpa using Hk5.out
      have XE := X4.out
      rw [if_neg (by rw [Hb16.out]; simp), e5] at XE
      go_wp2_with fail
      go_meet
      exact ⟨_, k5, Lib.hid ⟨S8.out, HK8.out, by omega, B8r.out, B8b.out, XE⟩⟩
     | true =>
      have e5 : k4 + 1 = k5 := by simpa using Hk5.out
      have XE := X4.out
      rw [if_pos Hb16.out, tail_rem, e5] at XE
      have X5 := Lib.hid XE
      clear XE
      go_wp2_with (go_at_call 120; refine Stand.out ?_)
      refine Stand.mk ?_
      refine (key_go S8.out HT.out HK8.out X5.out).mono ?_
      rintro e u9 (⟨p9, r9, rfl, rfl, f9⟩ | ⟨n9, l9, x9, rfl, m9⟩)
      ·go_wp2_with fail
       exact ⟨rfl, f9⟩
      have X9 := Lib.hid x9
      have HK9 := Lib.hid l9
      clear x9 l9
      have S9 := Lib.hid (S8.out.call m9)
      have B9r := Lib.hid (m9.blk B8r.out (by omega))
      have B9b := Lib.hid (m9.blk B8b.out (by omega))
      have zw9 := S9.out.size
      have zz9 := Mv.size m9
      clear m9
      have c1 := B9b.out.cell (i := 1) rfl
      have d1 := B9b.out.free 1
      go_wp2_with fail
      go_meet
      exact ⟨n9, k5 + 1, Lib.hid ⟨S9.out.set (by omega) 1 _, HK9.out, by omega, B9r.out.of_heap (Below.heap_setCell _ ⟨b4, 1, none⟩ _ _ (by show w.heap.size ≠ b4; omega)), B9b.out.set 1 _, X9.out⟩⟩
    case rest =>
     obtain ⟨ty, k6, hc⟩ := hcut
     have hc := hc.out
     obtain ⟨u9, hu⟩ := nam wc
     rw [hu] at hc ⊢
     clear hu
     have S9 := Lib.hid hc.1
     have HK9 := Lib.hid hc.2.1
     have q6 := hc.2.2.1
     have B9r := Lib.hid hc.2.2.2.1
     have B9b := Lib.hid hc.2.2.2.2.1
     have z9 := hc.2.2.2.2.1.lt
     have XE := hc.2.2.2.2.2
     clear hc
     obtain ⟨g, hg⟩ : ∃ g, f = g + 1 := by cases f with | zero => cases XE | succ g => exact ⟨g, rfl⟩
     rw [hg] at XE
     have XE : Go.Proofs.YteljlahcdipilaaGreat.step (run g) (.edgeP d var ty) (rem L k6) = some x := XE
     simp only [Go.Proofs.YteljlahcdipilaaGreat.step, sigB] at XE
     have X6 := Lib.hid XE
     have HG9 := Lib.hid hg
     clear XE hg
     cases h123 : isT 5 [123] (rem L k6) with
     | false =>
      have RY := X6.out
      simp only [h123, if_false, Bool.false_eq_true] at RY
      have RX := Lib.hid RY
      clear RY
      go_wp2_with (go_at_call 121; refine Stand.out ?_)
      refine Stand.mk ?_
      refine (sign_st S9.out HK9.out h123).mono ?_
      rintro e u10 ⟨rfl, m10⟩
      have S10 := Lib.hid (S9.out.call m10)
      have B10r := Lib.hid (m10.blk B9r.out (by omega))
      have B10b := Lib.hid (m10.blk B9b.out (by omega))
      have zw10 := S10.out.size
      have zz10 := Mv.size m10
      clear m10
      go_wp2_with (go_at_call 118; refine Stand.out ?_)
      refine Stand.mk ?_
      refine (mustSign_go S10.out HT.out HK9.out RX.out).mono ?_
      rintro e u11 (⟨p9, r9, rfl, rfl, f9⟩ | ⟨l11, x11, rfl, m11⟩)
      ·go_wp2_with fail
       exact ⟨rfl, f9⟩
      have X11 := Lib.hid x11
      have HK11 := Lib.hid l11
      clear x11 l11
      have S11 := Lib.hid (S10.out.call m11)
      have B11r := Lib.hid (m11.blk B10r.out (by omega))
      have B11b := Lib.hid (m11.blk B10b.out (by omega))
      have zw11 := S11.out.size
      have zz11 := Mv.size m11
      clear m11
      go_wp2_with fail
      go_meet
      exact ⟨_, var, ty, [], [], fun _ => False, fun _ => False, none, 0, none, 0, Lib.hid ⟨S11.out, HK11.out, by omega, B11r.out, B11b.out, HG.pure _ fun _ => .inl rfl, nil_sl, HG.pure _ fun _ => nil_row, nil_sl, ⟨fun _ h => h.elim, fun _ h => h.elim⟩, by rw [HG9.out]; exact run_up X11.out 1⟩⟩
     | true =>
      have RY := X6.out
      simp only [h123, if_true] at RY
      have RX := Lib.hid RY
      clear RY
      go_wp2_with (go_at_call 121; refine Stand.out ?_)
      refine Stand.mk ?_
      refine (sign_st S9.out HK9.out h123).mono ?_
      rintro e u10 ⟨rfl, m10⟩
      have S10 := Lib.hid (S9.out.call m10)
      have B10r := Lib.hid (m10.blk B9r.out (by omega))
      have B10b := Lib.hid (m10.blk B9b.out (by omega))
      have zw10 := S10.out.size
      have zz10 := Mv.size m10
      clear m10
      go_wp2_with (go_at_call 122; refine Stand.out ?_)
      refine Stand.mk ?_
      refine ((props_s g).go2 S10.out HT.out HK9.out RX.out).mono ?_
      rintro e u11 (⟨p9, r9, rfl, rfl, f9⟩ | ⟨v11, k11, val11, q11, l11, x11, rfl, ⟨T11, ka11, kc11, xa11, xc11, rfl, hT11, hK11, hX11, hks11, hs11⟩, m11⟩)
      ·go_wp2_with fail
       exact ⟨rfl, f9⟩
      have X11 := Lib.hid x11
      have HK11 := Lib.hid l11
      clear x11 l11
      have S11 := Lib.hid (S10.out.call m11)
      have B11r := Lib.hid (m11.blk B10r.out (by omega))
      have B11b := Lib.hid (m11.blk B10b.out (by omega))
      have zw11 := S11.out.size
      have zz11 := Mv.size m11
      clear m11
      have V11k := Lib.hid hK11
      clear hK11
      have Nk := Lib.hid hT11
      have V11x := Lib.hid hX11
      have Nx := Nk
      clear hX11
      have HSK := Lib.hid hks11
      have HSX := Lib.hid hs11
      clear hks11 hs11
      have c3 := B11b.out.cell (i := 3) rfl
      have d3 := B11b.out.free 3
      have c4 := B11b.out.cell (i := 4) rfl
      have d4 := B11b.out.free 4
      go_upto_region 11 with fail
      clear c3 d3 c4 d4
      obtain ⟨u12, hu⟩ : ∃ u, ((u11.setCell ⟨b4, 3, none⟩ (.slice ka11 v11.strs.length kc11)).setCell ⟨b4, 4, none⟩ (.slice xa11 v11.exs.length xc11)) = u := ⟨_, rfl⟩
      rw [hu]
      have S12 := Lib.hid (show St bp a cap L w k11 u12 from by rw [← hu]; exact ((S11.out.set (by omega) 3 _).set (by omega) 4 _))
      have zz12 : u12.heap.size = u11.heap.size := by rw [← hu]; simp [World.size_setCell]
      have hk12 : ∀ q, q ≠ b4 → u12.heap[q]? = u11.heap[q]? := fun q hq => by rw [← hu, Below.heap_setCell _ ⟨b4, 4, none⟩ _ q hq, Below.heap_setCell _ ⟨b4, 3, none⟩ _ q hq]
      have B12r := Lib.hid (B11r.out.of_heap (hk12 _ (by omega)))
      have B12b := Lib.hid (show Block u12 b4 [.string var, .string ty, .int .i64 d, .slice ka11 v11.strs.length kc11, .slice xa11 v11.exs.length xc11] 87 from by rw [← hu]; exact ((B11b.out.set 3 _).set 4 _))
      have V12k := Lib.hid (V11k.out.same (w1 := u12) (fun b hb => hk12 b (fun e => absurd (hT11 _ hb) (by omega))))
      have V12x := Lib.hid (V11x.out.same (w1 := u12) (fun b hb => hk12 b (fun e => absurd (hT11 _ hb) (by omega))))
      clear hu hk12
      go_wp2_with (go_at_call 118; refine Stand.out ?_)
      refine Stand.mk ?_
      refine (mustSign_go S12.out HT.out HK11.out X11.out).mono ?_
      rintro e u13 (⟨p9, r9, rfl, rfl, f9⟩ | ⟨l13, x13, rfl, m13⟩)
      ·go_wp2_with fail
       exact ⟨rfl, f9⟩
      have X13 := Lib.hid x13
      have HK13 := Lib.hid l13
      clear x13 l13
      have S13 := Lib.hid (S12.out.call m13)
      have B13r := Lib.hid (m13.blk B12r.out (by omega))
      have B13b := Lib.hid (m13.blk B12b.out (by omega))
      have V13k := Lib.hid (V12k.out.mv m13 (fun h => absurd (Nk.out _ h) (by omega)))
      have V13x := Lib.hid (V12x.out.mv m13 (fun h => absurd (Nx.out _ h) (by omega)))
      have zw13 := S13.out.size
      have zz13 := Mv.size m13
      clear m13
      go_wp2_with fail
      go_meet
      exact ⟨_, var, ty, v11.strs, v11.exs, T11, T11, ka11, kc11, xa11, xc11, Lib.hid ⟨S13.out, HK13.out, by omega, B13r.out, B13b.out, V13k.out, HSK.out, V13x.out, HSX.out, ⟨fun q h => by have := hT11 q h; omega, fun q h => by have := hT11 q h; omega⟩, by rw [HG9.out]; exact run_up X13.out 1⟩⟩
  case rest =>
   obtain ⟨k9, var, ty, ks, vs, S1, S2, ka, kc, xa, xc, hc⟩ := hcut
   have hc := hc.out
   obtain ⟨u6, hu⟩ := nam wc
   rw [hu] at hc ⊢
   clear hu
   have S6 := Lib.hid hc.st
   have HK6 := Lib.hid hc.lt
   have q9 := hc.ge
   have B6r := Lib.hid hc.r4
   have B6b := Lib.hid hc.r5
   have z6 := hc.r5.lt
   have V6k := Lib.hid hc.hk
   have V6x := Lib.hid hc.hx
   have HSK := Lib.hid hc.sk
   have HSX := Lib.hid hc.sx
   have Nk := Lib.hid hc.lo.1
   have Nx := Lib.hid hc.lo.2
   have XE := hc.rn
   clear hc
   obtain ⟨kn, hkn⟩ := nam ks.length
   obtain ⟨xn, hxn⟩ := nam vs.length
   rw [hkn, hxn] at B6b
   rw [hkn] at HSK
   rw [hxn] at HSX
   have HKN := Lib.hid hkn
   have HXN := Lib.hid hxn
   clear hkn hxn
   obtain ⟨g, hg⟩ : ∃ g, f = g + 1 := by cases f with | zero => cases XE | succ g => exact ⟨g, rfl⟩
   rw [hg] at XE
   have XE : Go.Proofs.YteljlahcdipilaaGreat.step (run g) (.edgeE d var ty ks vs) (rem L k9) = some x := XE
   simp only [Go.Proofs.YteljlahcdipilaaGreat.step, sigB, tail_rem] at XE
   have X9 := Lib.hid XE
   clear XE hg
   go_wp2_with (go_at_call 118; refine Stand.out ?_)
   refine Stand.mk ?_
   refine (mustSign_go S6.out HT.out HK6.out X9.out).mono ?_
   rintro e u7 (⟨p9, r9, rfl, rfl, f9⟩ | ⟨l7, x7, rfl, m7⟩)
   ·go_wp2_with fail
    exact ⟨rfl, f9⟩
   have X7 := Lib.hid x7
   have HK7 := Lib.hid l7
   clear x7 l7
   have S7 := Lib.hid (S6.out.call m7)
   have B7r := Lib.hid (m7.blk B6r.out (by omega))
   have B7b := Lib.hid (m7.blk B6b.out (by omega))
   have V7k := Lib.hid (V6k.out.mv m7 (fun h => absurd (Nk.out _ h) (by omega)))
   have V7x := Lib.hid (V6x.out.mv m7 (fun h => absurd (Nx.out _ h) (by omega)))
   have zw7 := S7.out.size
   have zz7 := Mv.size m7
   clear m7
   rcases hd9 with rfl | rfl
   ·skip
    have XE := X7.out
    simp only [(by decide : ¬ ((1 : Int) = 2)), false_and, if_false] at XE
    have X30 := Lib.hid XE
    clear XE
    have e2 := B7b.out.cell (i := 2) rfl
    obtain rfl := Option.some.inj X30.out
    have hRg := B7b.out.rng
    have hTh := block_there B7r.out 0 5 (Nat.le_refl 5)
    go_wp2_with (first | (refine wpList_load_mid rfl 87 _ rfl b4 0 rfl [.string var, .string ty, .int .i64 1, .slice ka kn kc, .slice xa xn xc] _ hRg Tryz.underlying87 rfl (by kernel_rfl) ?_) | (refine wpList_store_mid rfl 87 _ _ rfl w.heap.size 0 #[.string var, .string ty, .int .i64 1, .slice ka kn kc, .slice xa xn xc] rfl rfl hTh (by kernel_rfl) (by simp [Value.oneCell']) ?_))
    have B99 := B7r.out.all [.string var, .string ty, .int .i64 1, .slice ka kn kc, .slice xa xn xc] rfl
    refine bodyPost_ret (results_cell_row (by rfl) _ _ w.heap.size 87 _ (0, 0) _ (by rfl) B99 Tryz.underlying87 rfl (by kernel_rfl)) rfl ?_
    exact ⟨(k9 + 1), _, by omega, HK7.out, rfl, rfl, RtN.mk ((by have h := mk_ep (var := var) (ty := ty) (d := 1) (by unfold in64; omega) V7k.out (by rw [HKN.out]; exact HSK.out) V7x.out (by rw [HXN.out]; exact HSX.out); rw [HKN.out, HXN.out] at h; exact h.sets 0 _ (fun h => by rcases h with h | h; exact absurd (Nk.out _ h) (by omega); exact absurd (Nx.out _ h) (by omega)))) (rfl) (fun b h => by rcases h with h | h; have := Nk.out b h; omega; have := Nx.out b h; omega), (S7.out.sets (Nat.le_refl _) 0 _).mv⟩
   ·cases h62 : isT 5 [62] (rem L (k9 + 1)) with
    | false =>
     have XE := X7.out
     simp only [h62, Bool.false_eq_true, and_false, if_false] at XE
     have X30 := Lib.hid XE
     clear XE
     have e2 := B7b.out.cell (i := 2) rfl
     go_wp2_with (go_at_call 103; refine Stand.out ?_)
     refine Stand.mk ?_
     refine (skip_f S7.out HK7.out h62).mono ?_
     rintro e u8 ⟨rfl, m8⟩
     have S8 := Lib.hid (S7.out.call m8)
     have B8r := Lib.hid (m8.blk B7r.out (by omega))
     have B8b := Lib.hid (m8.blk B7b.out (by omega))
     have V8k := Lib.hid (V7k.out.mv m8 (fun h => absurd (Nk.out _ h) (by omega)))
     have V8x := Lib.hid (V7x.out.mv m8 (fun h => absurd (Nx.out _ h) (by omega)))
     have zw8 := S8.out.size
     have zz8 := Mv.size m8
     clear m8
     clear e2
     obtain rfl := Option.some.inj X30.out
     have hRg := B8b.out.rng
     have hTh := block_there B8r.out 0 5 (Nat.le_refl 5)
     go_wp2_with (first | (refine wpList_load_mid rfl 87 _ rfl b4 0 rfl [.string var, .string ty, .int .i64 2, .slice ka kn kc, .slice xa xn xc] _ hRg Tryz.underlying87 rfl (by kernel_rfl) ?_) | (refine wpList_store_mid rfl 87 _ _ rfl w.heap.size 0 #[.string var, .string ty, .int .i64 2, .slice ka kn kc, .slice xa xn xc] rfl rfl hTh (by kernel_rfl) (by simp [Value.oneCell']) ?_))
     have B99 := B8r.out.all [.string var, .string ty, .int .i64 2, .slice ka kn kc, .slice xa xn xc] rfl
     refine bodyPost_ret (results_cell_row (by rfl) _ _ w.heap.size 87 _ (0, 0) _ (by rfl) B99 Tryz.underlying87 rfl (by kernel_rfl)) rfl ?_
     exact ⟨(k9 + 1), _, by omega, HK7.out, rfl, rfl, RtN.mk ((by have h := mk_ep (var := var) (ty := ty) (d := 2) (by unfold in64; omega) V8k.out (by rw [HKN.out]; exact HSK.out) V8x.out (by rw [HXN.out]; exact HSX.out); rw [HKN.out, HXN.out] at h; exact h.sets 0 _ (fun h => by rcases h with h | h; exact absurd (Nk.out _ h) (by omega); exact absurd (Nx.out _ h) (by omega)))) (rfl) (fun b h => by rcases h with h | h; have := Nk.out b h; omega; have := Nx.out b h; omega), (S8.out.sets (Nat.le_refl _) 0 _).mv⟩
    | true =>
     have XE := X7.out
     simp only [h62, and_self, if_true, tail_rem] at XE
     have X30 := Lib.hid XE
     clear XE
     have e2 := B7b.out.cell (i := 2) rfl
     go_wp2_with (go_at_call 103; refine Stand.out ?_)
     refine Stand.mk ?_
     refine (skip_t S7.out HK7.out h62).mono ?_
     rintro e u8 ⟨rfl, m8⟩
     have S8 := Lib.hid (S7.out.call m8)
     have B8r := Lib.hid (m8.blk B7r.out (by omega))
     have B8b := Lib.hid (m8.blk B7b.out (by omega))
     have V8k := Lib.hid (V7k.out.mv m8 (fun h => absurd (Nk.out _ h) (by omega)))
     have V8x := Lib.hid (V7x.out.mv m8 (fun h => absurd (Nx.out _ h) (by omega)))
     have zw8 := S8.out.size
     have zz8 := Mv.size m8
     clear m8
     have HK8 := Lib.hid (HT.out.next HK7.out h62 (by decide))
     clear e2
     have c2 := B8b.out.cell (i := 2) rfl
     have d2 := B8b.out.free 2
     go_upto_region 15 with fail
     clear c2 d2
     obtain ⟨u9, hu⟩ : ∃ u, (u8.setCell ⟨b4, 2, none⟩ (.int .i64 0)) = u := ⟨_, rfl⟩
     rw [hu]
     have S9 := Lib.hid (show St bp a cap L w ((k9 + 1) + 1) u9 from by rw [← hu]; exact (S8.out.set (by omega) 2 _))
     have zz9 : u9.heap.size = u8.heap.size := by rw [← hu]; simp [World.size_setCell]
     have hk9 : ∀ q, q ≠ b4 → u9.heap[q]? = u8.heap[q]? := fun q hq => by rw [← hu, Below.heap_setCell _ ⟨b4, 2, none⟩ _ q hq]
     have B9r := Lib.hid (B8r.out.of_heap (hk9 _ (by omega)))
     have B9b := Lib.hid (show Block u9 b4 [.string var, .string ty, .int .i64 0, .slice ka kn kc, .slice xa xn xc] 87 from by rw [← hu]; exact (B8b.out.set 2 _))
     have V9k := Lib.hid (V8k.out.same (w1 := u9) (fun b hb => hk9 b (fun e => absurd (Nk.out _ hb) (by omega))))
     have V9x := Lib.hid (V8x.out.same (w1 := u9) (fun b hb => hk9 b (fun e => absurd (Nx.out _ hb) (by omega))))
     clear hu hk9
     obtain rfl := Option.some.inj X30.out
     have hRg := B9b.out.rng
     have hTh := block_there B9r.out 0 5 (Nat.le_refl 5)
     go_wp2_with (first | (refine wpList_load_mid rfl 87 _ rfl b4 0 rfl [.string var, .string ty, .int .i64 0, .slice ka kn kc, .slice xa xn xc] _ hRg Tryz.underlying87 rfl (by kernel_rfl) ?_) | (refine wpList_store_mid rfl 87 _ _ rfl w.heap.size 0 #[.string var, .string ty, .int .i64 0, .slice ka kn kc, .slice xa xn xc] rfl rfl hTh (by kernel_rfl) (by simp [Value.oneCell']) ?_))
     have B99 := B9r.out.all [.string var, .string ty, .int .i64 0, .slice ka kn kc, .slice xa xn xc] rfl
     refine bodyPost_ret (results_cell_row (by rfl) _ _ w.heap.size 87 _ (0, 0) _ (by rfl) B99 Tryz.underlying87 rfl (by kernel_rfl)) rfl ?_
     exact ⟨((k9 + 1) + 1), _, by omega, HK8.out, rfl, rfl, RtN.mk ((by have h := mk_ep (var := var) (ty := ty) (d := 0) (by unfold in64; omega) V9k.out (by rw [HKN.out]; exact HSK.out) V9x.out (by rw [HXN.out]; exact HSX.out); rw [HKN.out, HXN.out] at h; exact h.sets 0 _ (fun h => by rcases h with h | h; exact absurd (Nk.out _ h) (by omega); exact absurd (Nx.out _ h) (by omega)))) (rfl) (fun b h => by rcases h with h | h; have := Nk.out b h; omega; have := Nx.out b h; omega), (S9.out.sets (Nat.le_refl _) 0 _).mv⟩
def Pr.rest : Pr → List Tok | .ok _ r => r | .bad r => r
def Pr.put : Pr → List Tok → Pr | .ok v _, r => .ok v r | .bad _, r => .bad r
def Sh (o : O) (l : List Tok) : Prop := ∀ x, o = some x → x.rest.length ≤ l.length
theorem Sh.le {o : O} {l m : List Tok} (h : Sh o l) (hm : l.length ≤ m.length) : Sh o m := fun x hx => Nat.le_trans (h x hx) hm
theorem tl_le (l : List Tok) : l.tail.length ≤ l.length := by rw [List.length_tail]; omega
theorem may_le (l : List Tok) : (mayN l).2.length ≤ l.length := by
 unfold mayN; split
 ·exact tl_le l
 ·exact Nat.le_refl _
theorem if_le (p : Prop) [Decidable p] (l : List Tok) : (if p then l.tail else l).length ≤ l.length := by
 split
 ·exact tl_le l
 ·exact Nat.le_refl _
theorem tl_of {l m : List Tok} (h : l.length ≤ m.length) : l.tail.length ≤ m.length := Nat.le_trans (tl_le l) h
theorem may_of {l m : List Tok} (h : l.length ≤ m.length) : (mayN l).2.length ≤ m.length := Nat.le_trans (may_le l) h
theorem if_of {p : Prop} [Decidable p] {l m : List Tok} (h : l.length ≤ m.length) : (if p then l.tail else l).length ≤ m.length := Nat.le_trans (if_le p l) h
theorem sh_ok {v : V} {r l : List Tok} (hm : r.length ≤ l.length) : Sh (okP v r) l := fun x hx => by cases hx; exact hm
theorem sh_bad {r l : List Tok} (hm : r.length ≤ l.length) : Sh (some (.bad r)) l := fun x hx => by cases hx; exact hm
theorem sh_bnd {o : O} {l : List Tok} {k : V → List Tok → O} (h : Sh o l) (hk : ∀ v r, r.length ≤ l.length → Sh (k v r) l) : Sh (bnd o k) l := by
 intro x hx
 cases o with
 | none => cases hx
 | some p => cases p with
  | ok v r => exact hk v r (h _ rfl) x hx
  | bad r => cases hx; exact h _ rfl
theorem sh_must {b : Bool} {m l : List Tok} {k : List Tok → O} (hm : m.length ≤ l.length) (hk : ∀ r, r.length ≤ l.length → Sh (k r) l) : Sh (must b m k) l := by
 unfold must; split
 ·exact hk _ (tl_of hm)
 ·exact sh_bad hm
theorem sh_key {m l : List Tok} {k : ByteArray → List Tok → O} (hm : m.length ≤ l.length) (hk : ∀ s r, r.length ≤ l.length → Sh (k s r) l) : Sh (keyP m k) l := by
 unfold keyP; split
 ·exact hk _ _ (tl_of hm)
 ·exact sh_bad hm
theorem sh_name {m l : List Tok} {k : ByteArray → List Tok → O} (hm : m.length ≤ l.length) (hk : ∀ s r, r.length ≤ l.length → Sh (k s r) l) : Sh (nameP m k) l := by
 unfold nameP; split
 ·exact hk _ _ (tl_of hm)
 ·exact sh_bad hm
theorem sh_ite {p : Prop} [Decidable p] {a b : O} {l : List Tok} (h1 : Sh a l) (h2 : Sh b l) : Sh (if p then a else b) l := by split <;> assumption
theorem step_sh {rec : G → List Tok → O} (h : ∀ g l, Sh (rec g l) l) : ∀ g l, Sh (step rec g l) l := by
 intro g l
 have h' : ∀ {g : G} {m : List Tok}, m.length ≤ l.length → Sh (rec g m) l := fun hm x hx => Nat.le_trans (h _ _ x hx) hm
 cases g <;> simp only [step] <;>
  repeat (first | refine sh_ite ?_ ?_ | refine sh_bnd ?_ (fun _ _ _ => ?_) | refine sh_must ?_ (fun _ _ => ?_) | refine sh_key ?_ (fun _ _ _ => ?_) | refine sh_name ?_ (fun _ _ _ => ?_) | refine h' ?_ | refine sh_ok ?_ | refine sh_bad ?_ | exact Nat.le_refl _ | assumption | refine tl_of ?_ | refine may_of ?_ | refine if_of ?_)
theorem run_sh : ∀ (f : Nat) (g : G) (l : List Tok), Sh (run f g l) l
  | 0, _, _ => fun _ hx => by cases hx
  | f + 1, g, l => step_sh (run_sh f) g l
theorem rem_len (L : List (Tok × Nat)) (k : Nat) : (rem L k).length = L.length - k := by unfold rem; simp
theorem node_prog {f : Nat} {L : List (Tok × Nat)} {k k' : Nat} {v : V} (hk : k < L.length) (hk' : k' < L.length) (h : run f .node (rem L k) = some (.ok v (rem L k'))) : k < k' := by
 cases f with
 | zero => cases h
 | succ f =>
  have h : Go.Proofs.YteljlahcdipilaaGreat.step (run f) .node (rem L k) = some (.ok v (rem L k')) := h
  simp only [Go.Proofs.YteljlahcdipilaaGreat.step, sigB, tail_rem] at h
  unfold must at h
  split at h
  ·have hs : Sh (bnd (run f (.labels []) (mayN (rem L (k + 1))).2) fun v r => if isT 5 [123] r = true then bnd (run f .props r) fun p r2 => must (isT 5 [41] r2) r2 fun r3 => okP (.np ⟨(mayN (rem L (k + 1))).1, v.strs, p.strs, p.exs⟩) r3 else must (isT 5 [41] r) r fun r3 => okP (.np ⟨(mayN (rem L (k + 1))).1, v.strs, [], []⟩) r3) (rem L (k + 1)) := by
    have h' : ∀ {g : G} {m : List Tok}, m.length ≤ (rem L (k + 1)).length → Sh (run f g m) (rem L (k + 1)) := fun hm x hx => Nat.le_trans (run_sh _ _ _ x hx) hm
    repeat (first | refine sh_ite ?_ ?_ | refine sh_bnd ?_ (fun _ _ _ => ?_) | refine sh_must ?_ (fun _ _ => ?_) | refine h' ?_ | refine sh_ok ?_ | refine sh_bad ?_ | exact Nat.le_refl _ | assumption | refine tl_of ?_ | refine may_of ?_ | refine if_of ?_)
   rw [tail_rem] at h
   have h2 := hs _ h
   have h3 : (rem L k').length ≤ (rem L (k + 1)).length := h2
   rw [rem_len, rem_len] at h3
   omega
  ·cases h
theorem Said.go3 {bp : Nat} {a : Option Addr} {cap : Nat} {L : List (Tok × Nat)} {w u : World} {k : Nat} {x : Pr} {F : FuncId} {args : List Value} {g : G} {Rt : V → Value → World → World → Prop} {f : Nat} (h : Said F args g Rt f) (s : St bp a cap L w k u) (hT : Tk L) (hk : k < L.length) {K : V → List Tok → O} (hx : bnd (run f g (rem L k)) K = some x) :
    Calls Tryz.prog F (List.toArray (.pointer (some ⟨bp, 0, none⟩) :: args)) u fun e u' => Bad bp L w x e u' ∨ ∃ v k' val, k ≤ k' ∧ k' < L.length ∧ K v (rem L k') = some x ∧ run f g (rem L k) = some (.ok v (rem L k')) ∧ e = .returned val ∧ Rt v val u u' ∧ Mv bp k' u u' := by
 obtain ⟨p, hp, hx⟩ := bnd_some hx
 refine (h.go s hT hk hp).mono fun e u' h2 => ?_
 cases p with
 | bad r => exact .inl (Bad.of s hx h2)
 | ok v r =>
  obtain ⟨k2, val, h1, h3, rfl, h4, h5, h6⟩ := h2
  exact .inr ⟨v, k2, val, h1, h3, hx, hp, h4, h5, h6⟩
end Go.Proofs.YteljlahcdipilaaGreat

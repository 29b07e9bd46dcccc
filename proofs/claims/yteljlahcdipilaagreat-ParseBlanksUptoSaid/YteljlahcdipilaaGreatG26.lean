/- Parts Q11 of this seat (pruned, scripts that are alike kept once as default arguments: q1, q2, ..). Conditions: each says its own. -/
import Derived.Test.YteljlahcdipilaaGreatG25
set_option linter.unusedSimpArgs false
set_option linter.unusedVariables false
set_option maxRecDepth 1000000
set_option maxHeartbeats 64000000
namespace Go.Proofs.YteljlahcdipilaaGreat
open Go.RowKit Go.Shelf
theorem HX.ten {S : Nat -> Prop} {w : World} {ds : List Value} {t : Ex} (h : HX S w ds t) : ∃ op nm vk vb vi vs la ln lc ka kn kc na nn nc xa xn xc, op = Bn t /\ nm = v7 t /\
    ds = [.int .i64 op, .string nm, .int .i64 vk, .bool vb, .int .i64 vi, .string vs, .slice la ln lc, .slice ka kn kc, .slice na nn nc, .slice xa xn xc] := by
 have h1 := h.is;obtain ⟨op, nm, v, ns, az⟩ := t;obtain ⟨vk, vb, vi, vs, vl, vks, la, lc, ka, kc, na, nc, xa, xc, -, rfl, -⟩ := h1.cells;exact ⟨_, _, _, _, _, _, _, _, _, _, _, _, _, _, _, _, _, _, rfl, rfl, rfl⟩
theorem lE.of {bp k : Nat} {a : Option Addr} {cap : Nat} {L : List (am × Nat)} {w u u' : World} {r : List am} {e : Ending} (s : St bp a cap L w k u) (h : lE bp L u r e u') : lE bp L w r e u' := by
 obtain ⟨k9, y, j, h1, h2, h3, h4⟩ := h;exact ⟨k9, y, j, h1, h2, h3, Mv.trans s.mv h4⟩
theorem nS {S : Nat -> Prop} {w : World} {op : Int} {nm : ByteArray} {xa : Option Addr} {xc : Nat} {az : List Ex} (ho : bJ op) (hs : aZ xa az.length xc) (hr : HG (fun w' => cg (bK w'.heap.size w') 10 w'.heap.size w' xa az) S w) :
    HX S w [.int .i64 op, .string nm, .int .i64 0, .bool false, .int .i64 0, .string ⟨#[]⟩, .slice none 0 0, .slice none 0 0, .slice none 0 0, .slice xa az.length xc] (mE op nm az) :=
  hr.imp fun w' h => by
    unfold mE bK;exact ⟨kI, none, 0, xa, xc, rfl, ho, fs _ _, al, hs, da.nil, gQ.2 h⟩
theorem gA.mk {v : V} {t : Ex} {w u : World} {S : Nat -> Prop} {ds : List Value} (hX : HX S u ds t) (hv : v.ex = t) (hS : ∀ b, S b -> w.heap.size <= b) : gA v (.agg (List.toArray ds)) w u := ⟨S, ds, rfl, hS, by rw [hv]; exact hX⟩
def j8 (S : Nat -> Prop) (w : World) (xa : Option Addr) (l : List Ex) : Prop := HG (fun w' => cg (bK w'.heap.size w') 10 w'.heap.size w' xa l) S w
def BK (v : V) (val : Value) (w w' : World) : Prop := ∃ S xa xc, val = .slice xa v.exs.length xc /\ (∀ b, S b -> w.heap.size <= b) /\ j8 S w' xa v.exs /\ aZ xa v.exs.length xc
def kZ (S : Nat -> Prop) (w : World) (xa : Option Addr) (l : List ByteArray) : Prop := HG (fun w' => co w'.heap.size w' xa l) S w
def AC (v : V) (val : Value) (w w' : World) : Prop := ∃ S ka kc xa xc, val = .tuple #[.slice ka v.strs.length kc, .slice xa v.exs.length xc] /\ (∀ b, S b -> w.heap.size <= b) /\ kZ S w' ka v.strs /\ j8 S w' xa v.exs /\ aZ ka v.strs.length kc /\ aZ xa v.exs.length xc
def og (bp : Nat) (L : List (am × Nat)) (w : World) (x : Pr) (e : Ending) (w' : World) : Prop := ∃ p r, x = .bad r /\ e = .panicked p /\ lE bp L w r (.panicked p) w'
section
variable {bp : Nat} {a : Option Addr} {cap : Nat} {L : List (am × Nat)} {w u : World} {k : Nat} {x : Pr}
theorem og.of {r : List am} {e : Ending} {u' : World} (s : St bp a cap L w k u) (hx : some (Pr.bad r) = some x) (h : lE bp L u r e u') : og bp L w x e u' := by
 obtain ⟨k9, y, j, h1, h2, rfl, h4⟩ := h;exact ⟨_, r, (Option.some.inj hx).symm, rfl, k9, y, j, h1, h2, rfl, Mv.trans s.mv h4⟩
theorem bu (s : St bp a cap L w k u) (hT : Tk L) (hk : k < L.length) {t : List UInt8} {K : List am -> O} (hx : must (ck 5 t (aA L k)) (aA L k) K = some x) :
    Calls Tryz.prog 118 #[.pointer (some ⟨bp, 0, none⟩), .string (ai t)] u fun e u' => og bp L w x e u' \/ (k + 1 < L.length /\ K (aA L (k + 1)) = some x /\ e = .returned (.tuple #[]) /\ Mv bp (k + 1) u u') :=
  (yP s hT hk t).mono fun e u' h => h.elim (fun ⟨⟨h1, h2⟩, h3, h4⟩ => .inr ⟨h2, (h1 K).symm.trans hx, h3, h4⟩) (fun ⟨h1, h2⟩ => .inl (og.of s ((h1 K).symm.trans hx) h2))
theorem fd (s : St bp a cap L w k u) (hT : Tk L) (hk : k < L.length) {t : List UInt8} {K : List am -> O} (hx : must (ck 2 t (aA L k)) (aA L k) K = some x) :
    Calls Tryz.prog 98 #[.pointer (some ⟨bp, 0, none⟩), .string (ai t)] u fun e u' => og bp L w x e u' \/ (k + 1 < L.length /\ K (aA L (k + 1)) = some x /\ e = .returned (.tuple #[]) /\ Mv bp (k + 1) u u') :=
  (wD s hT hk t).mono fun e u' h => h.elim (fun ⟨⟨h1, h2⟩, h3, h4⟩ => .inr ⟨h2, (h1 K).symm.trans hx, h3, h4⟩) (fun ⟨h1, h2⟩ => .inl (og.of s ((h1 K).symm.trans hx) h2))
theorem gv (s : St bp a cap L w k u) (hT : Tk L) (hk : k < L.length) {K : ByteArray -> List am -> O} (hx : dY (aA L k) K = some x) :
    Calls Tryz.prog 99 #[.pointer (some ⟨bp, 0, none⟩)] u fun e u' => og bp L w x e u' \/ ∃ n, k + 1 < L.length /\ K n (aA L (k + 1)) = some x /\ e = .returned (.string n) /\ Mv bp (k + 1) u u' :=
  (yQ s hT hk).mono fun e u' ⟨n, h⟩ => h.elim (fun ⟨⟨h1, h2⟩, h3, h4⟩ => .inr ⟨n, h2, (h1 K).symm.trans hx, h3, h4⟩) (fun ⟨h1, h2⟩ => .inl (og.of s ((h1 K).symm.trans hx) h2))
theorem gw (s : St bp a cap L w k u) (hT : Tk L) (hk : k < L.length) {K : ByteArray -> List am -> O} (hx : fB (aA L k) K = some x) :
    Calls Tryz.prog 120 #[.pointer (some ⟨bp, 0, none⟩)] u fun e u' => og bp L w x e u' \/ ∃ n, k + 1 < L.length /\ K n (aA L (k + 1)) = some x /\ e = .returned (.string n) /\ Mv bp (k + 1) u u' :=
  (AB s hT hk).mono fun e u' ⟨n, h⟩ => h.elim (fun ⟨⟨h1, h2⟩, h3, h4⟩ => .inr ⟨n, h2, (h1 K).symm.trans hx, h3, h4⟩) (fun ⟨h1, h2⟩ => .inl (og.of s ((h1 K).symm.trans hx) h2))
theorem cL.go2 {F : FuncId} {args : List Value} {g : G} {Rt : V -> Value -> World -> World -> Prop} {f : Nat} (h : cL F args g Rt f) (s : St bp a cap L w k u) (hT : Tk L) (hk : k < L.length) {K : V -> List am -> O} (hx : bnd (run f g (aA L k)) K = some x) :
    Calls Tryz.prog F (List.toArray (.pointer (some ⟨bp, 0, none⟩) :: args)) u fun e u' => og bp L w x e u' \/ ∃ v k' val, k <= k' /\ k' < L.length /\ K v (aA L k') = some x /\ e = .returned val /\ Rt v val u u' /\ Mv bp k' u u' := by
 obtain ⟨p, hp, hx⟩ := kY hx;refine (h.go s hT hk hp).mono fun e u' h2 => ?_
 cases p with
 | bad r => exact .inl (og.of s hx h2)
 | ok v r =>
  obtain ⟨k2, val, h1, h3, rfl, h4, h5, h6⟩ := h2;exact .inr ⟨v, k2, val, h1, h3, hx, h4, h5, h6⟩
end
structure sy (f : Nat) : Prop where
  expr : ∀ g, g <= f -> ∀ n : Nat, n <= 8 -> cL 97 [.int .i64 n] (.expr n) gA g
  unary : ∀ g, g <= f -> ∀ n : Nat, n <= 8 -> cL 113 [.int .i64 n] (.unary n) gA g
  atom : ∀ g, g <= f -> cL 129 [] .atom gA g
  list : ∀ g, g <= f -> ∀ t : List UInt8, t.length <= 1 -> cL 131 [.string (ai t)] (.list t) BK g
  props : ∀ g, g <= f -> cL 122 [] .props AC g
theorem Sq354185 {P : Prop} (h : P := by
 have hr : Go.Proofs.YteljlahcdipilaaGreat.step (run f) (.unary least) (aA L k) = some x := hr
 first
 | (guard_hyp z354185a; simp only [Go.Proofs.YteljlahcdipilaaGreat.step, cB, hl, false_and, if_false, aL, hm, if_true, ar] at hr)
 | (simp only [Go.Proofs.YteljlahcdipilaaGreat.step, cB, hn, hl, and_true, if_true, ar] at hr)
 have HT := aa hT;have HK0 := aa hk;have X0 := aa hr;have hbw := h.lt;obtain ⟨u0, hy0⟩ : ∃ u, w.alloc (.cells ad 66) = u := ⟨_, rfl⟩;have s0 : St bp a cap L w k u0 := by rw [<- hy0]; exact (St.start h).alloc _
 have b0 : ae u0 w.heap.size zX 66 := by rw [<- hy0]; exact ae.new w _ _
 have B0r := aa b0;clear b0;have S0 := aa s0;have HU := aa hy0;clear s0 hy0 h hT hk hr
 first
 |(
  guard_hyp z354185a
  have hl4 : decide ((least : Int) <= 4) = false := by simp; omega
  have hl5 : ¬ (least : Int) <= 4 := by omega
  have Hm := aa hm;clear hm)
 |(
  have hl4 : decide ((least : Int) <= 4) = true := by simp; omega
  have hl5 : (least : Int) <= 4 := by omega
  have Hn := aa hn;clear hn)
 go_enter Tryz.func113, Tryz.ntmps113;go_upto_region 1 with fail;rw [HU.out];go_wp2_with (go_at_call 103; refine af.out ?_);refine af.mk ?_
 first
 | (guard_hyp z354185a; refine (cp S0.out HK0.out Hm.out).mono ?_)
 | (refine (cp S0.out HK0.out Hn.out).mono ?_)
 rintro e u1 ⟨rfl, m1⟩;have S1 := aa (S0.out.call m1);have B1r := aa (m1.blk B0r.out (by omega));have zz1 := Mv.size m1;clear m1
 first
 |(
  guard_hyp z354185a
  have HK1 := aa (HT.out.next HK0.out Hm.out (by decide));go_wp2_with (go_at_call 113; refine af.out ?_))
 |(
  have HK1 := aa (HT.out.next HK0.out Hn.out (by decide));go_wp2_with (go_at_call 97; refine af.out ?_))
 refine af.mk ?_
 first
 | (guard_hyp z354185a; refine ((HR.unary f (Nat.le_refl _) 8 (by decide)).go2 S1.out HT.out HK1.out X0.out).mono ?_)
 | (refine ((HR.expr f (Nat.le_refl _) 4 (by decide)).go2 S1.out HT.out HK1.out X0.out).mono ?_)
 rintro e u2 (⟨p9, r9, rfl, rfl, f9⟩ | ⟨v2, k2, val2, q2, l2, x2, rfl, ⟨T2, ds2, rfl, hT2, hX2⟩, m2⟩)
 ·go_wp2_with fail;exact ⟨rfl, f9⟩
 have X2 := aa x2;have HK2 := aa l2;clear x2 l2;have S2 := aa (S1.out.call m2);have B2r := aa (m2.blk B1r.out (by omega));have zz2 := Mv.size m2;clear m2;obtain ⟨op2, nm2, vk2, vb2, vi2, vs2, la2, ln2, lc2, ka2, kn2, kc2, na2, nn2, nc2, xa2, xn2, xc2, -, -, rfl⟩ := hX2.ten;have V2x2 := aa hX2;clear hX2;have Nx2 := aa (show ¬ T2 bp from fun h => absurd (hT2 _ h) (by have := S1.out.size; omega));have z0 := S0.out.size;have z1 := S1.out.size;have z2 := S2.out.size;obtain rfl := Option.some.inj X2.out;have zb := B1r.out.lt;have B9 := aa (B2r.out.alloc (.cells #[.int .i64 op2, .string nm2, .int .i64 vk2, .bool vb2, .int .i64 vi2, .string vs2, .slice la2 ln2 lc2, .slice ka2 kn2 kc2, .slice na2 nn2 nc2, .slice xa2 xn2 xc2] 66));have hTh := ah B9.out 0 10 (by decide)
 first
 |(
  guard_hyp z354185a
  go_wp2_with (refine wpList_store_mid rfl 66 _ _ rfl w.heap.size 0 #[.int .i64 8, .string ⟨#[]⟩, .int .i64 0, .bool false, .int .i64 0, .string ⟨#[]⟩, .slice none 0 0, .slice none 0 0, .slice none 0 0, .slice (some ⟨u2.heap.size, 0, none⟩) 1 1] rfl rfl hTh (by kernel_rfl) (by simp [Value.oneCell']) ?_);have B10 := B9.out.setCells [.int .i64 8, .string ⟨#[]⟩, .int .i64 0, .bool false, .int .i64 0, .string ⟨#[]⟩, .slice none 0 0, .slice none 0 0, .slice none 0 0, .slice (some ⟨u2.heap.size, 0, none⟩) 1 1] 0)
 |(
  go_wp2_with (refine wpList_store_mid rfl 66 _ _ rfl w.heap.size 0 #[.int .i64 9, .string ⟨#[]⟩, .int .i64 0, .bool false, .int .i64 0, .string ⟨#[]⟩, .slice none 0 0, .slice none 0 0, .slice none 0 0, .slice (some ⟨u2.heap.size, 0, none⟩) 1 1] rfl rfl hTh (by kernel_rfl) (by simp [Value.oneCell']) ?_);have B10 := B9.out.setCells [.int .i64 9, .string ⟨#[]⟩, .int .i64 0, .bool false, .int .i64 0, .string ⟨#[]⟩, .slice none 0 0, .slice none 0 0, .slice none 0 0, .slice (some ⟨u2.heap.size, 0, none⟩) 1 1] 0)
 refine bodyPost_ret (results_cell_row (by rfl) _ _ w.heap.size 66 _ (0, 0) _ (by rfl) B10 Tryz.underlying66 rfl (by kernel_rfl)) rfl ?_;exact ⟨k2, _, by omega, HK2.out, rfl, rfl, gA.mk (fE (g := u2.heap.size) (nm := ⟨#[]⟩) ((V2x2.out.alloc _).sets 0 _ (fun h => absurd (hT2 _ h) (by omega))) ((ae.new u2 _ _).of_heap (ak (by omega) _ 0 _)) (by unfold bJ; omega) rfl) rfl (fun b h => h.elim (fun h => by have := hT2 b h; omega) (fun e => by omega)), ((S2.out.alloc _).sets (Nat.le_refl _) 0 _).mv⟩) : P := h
theorem tZ {f : Nat} (HR : sy f) (least : Nat) (hl8 : least <= 8) (bp : Nat) (a : Option Addr) (cap : Nat) (L : List (am × Nat)) (k : Nat) (w : World) (x : Pr) (h : Ps bp a cap L k w) (hT : Tk L) (hk : k < L.length) (hl : least <= 4) (hn : ck 2 fm (aA L k) = true) (hr : run (f + 1) (.unary least) (aA L k) = some x) :
    Calls Tryz.prog 113 #[.pointer (some ⟨bp, 0, none⟩), .int .i64 least] w (PR gA bp L k w x) := Sq354185
theorem rh {f : Nat} (HR : sy f) (least : Nat) (hl8 : least <= 8) (bp : Nat) (a : Option Addr) (cap : Nat) (L : List (am × Nat)) (k : Nat) (w : World) (x : Pr) (h : Ps bp a cap L k w) (hT : Tk L) (hk : k < L.length) (hl : least <= 4) (hn : ck 2 fm (aA L k) = false) (hm : ck 5 [45] (aA L k) = true) (hr : run (f + 1) (.unary least) (aA L k) = some x) :
    Calls Tryz.prog 113 #[.pointer (some ⟨bp, 0, none⟩), .int .i64 least] w (PR gA bp L k w x) := by
 have hr : Go.Proofs.YteljlahcdipilaaGreat.step (run f) (.unary least) (aA L k) = some x := hr;simp only [Go.Proofs.YteljlahcdipilaaGreat.step, cB, hn, and_false, if_false, aL, hm, if_true, Bool.false_eq_true, ar] at hr;have HT := aa hT;have HK0 := aa hk;have X0 := aa hr;have hbw := h.lt;obtain ⟨u0, hy0⟩ : ∃ u, w.alloc (.cells ad 66) = u := ⟨_, rfl⟩;have s0 : St bp a cap L w k u0 := by rw [<- hy0]; exact (St.start h).alloc _
 have b0 : ae u0 w.heap.size zX 66 := by rw [<- hy0]; exact ae.new w _ _
 have B0r := aa b0;clear b0;have S0 := aa s0;have HU := aa hy0;clear s0 hy0 h hT hk hr;have hl4 : decide ((least : Int) <= 4) = true := by simp; omega
 have hl5 : (least : Int) <= 4 := by omega
 have Hn := aa hn;clear hn;have Hm := aa hm;clear hm;go_enter Tryz.func113, Tryz.ntmps113;go_upto_region 1 with fail;rw [HU.out];go_wp2_with (go_at_call 103; refine af.out ?_);refine af.mk ?_;refine (cq S0.out HK0.out Hn.out).mono ?_;rintro e u1 ⟨rfl, m1⟩;have S1 := aa (S0.out.call m1);have B1r := aa (m1.blk B0r.out (by omega));have zz1 := Mv.size m1;clear m1;go_wp2_with (go_at_call 103; refine af.out ?_);refine af.mk ?_;refine (cp S1.out HK0.out Hm.out).mono ?_;rintro e u2 ⟨rfl, m2⟩;have S2 := aa (S1.out.call m2);have B2r := aa (m2.blk B1r.out (by omega));have zz2 := Mv.size m2;clear m2;have HK2 := aa (HT.out.next HK0.out Hm.out (by decide));go_wp2_with (go_at_call 113; refine af.out ?_);refine af.mk ?_;refine ((HR.unary f (Nat.le_refl _) 8 (by decide)).go2 S2.out HT.out HK2.out X0.out).mono ?_;rintro e u3 (⟨p9, r9, rfl, rfl, f9⟩ | ⟨v3, k3, val3, q3, l3, x3, rfl, ⟨T3, ds3, rfl, hT3, hX3⟩, m3⟩)
 ·go_wp2_with fail;exact ⟨rfl, f9⟩
 have X3 := aa x3;have HK3 := aa l3;clear x3 l3;have S3 := aa (S2.out.call m3);have B3r := aa (m3.blk B2r.out (by omega));have zz3 := Mv.size m3;clear m3;obtain ⟨op3, nm3, vk3, vb3, vi3, vs3, la3, ln3, lc3, ka3, kn3, kc3, na3, nn3, nc3, xa3, xn3, xc3, -, -, rfl⟩ := hX3.ten;have V3x3 := aa hX3;clear hX3;have Nx3 := aa (show ¬ T3 bp from fun h => absurd (hT3 _ h) (by have := S2.out.size; omega));have z0 := S0.out.size;have z1 := S1.out.size;have z2 := S2.out.size;have z3 := S3.out.size;obtain rfl := Option.some.inj X3.out;have zb := B2r.out.lt;have B9 := aa (B3r.out.alloc (.cells #[.int .i64 op3, .string nm3, .int .i64 vk3, .bool vb3, .int .i64 vi3, .string vs3, .slice la3 ln3 lc3, .slice ka3 kn3 kc3, .slice na3 nn3 nc3, .slice xa3 xn3 xc3] 66));have hTh := ah B9.out 0 10 (by decide);go_wp2_with (refine wpList_store_mid rfl 66 _ _ rfl w.heap.size 0 #[.int .i64 8, .string ⟨#[]⟩, .int .i64 0, .bool false, .int .i64 0, .string ⟨#[]⟩, .slice none 0 0, .slice none 0 0, .slice none 0 0, .slice (some ⟨u3.heap.size, 0, none⟩) 1 1] rfl rfl hTh (by kernel_rfl) (by simp [Value.oneCell']) ?_);have B10 := B9.out.setCells [.int .i64 8, .string ⟨#[]⟩, .int .i64 0, .bool false, .int .i64 0, .string ⟨#[]⟩, .slice none 0 0, .slice none 0 0, .slice none 0 0, .slice (some ⟨u3.heap.size, 0, none⟩) 1 1] 0;refine bodyPost_ret (results_cell_row (by rfl) _ _ w.heap.size 66 _ (0, 0) _ (by rfl) B10 Tryz.underlying66 rfl (by kernel_rfl)) rfl ?_;exact ⟨k3, _, by omega, HK3.out, rfl, rfl, gA.mk (fE (g := u3.heap.size) (nm := ⟨#[]⟩) ((V3x3.out.alloc _).sets 0 _ (fun h => absurd (hT3 _ h) (by omega))) ((ae.new u3 _ _).of_heap (ak (by omega) _ 0 _)) (by unfold bJ; omega) rfl) rfl (fun b h => h.elim (fun h => by have := hT3 b h; omega) (fun e => by omega)), ((S3.out.alloc _).sets (Nat.le_refl _) 0 _).mv⟩
theorem ri {f : Nat} (HR : sy f) (least : Nat) (hl8 : least <= 8) (bp : Nat) (a : Option Addr) (cap : Nat) (L : List (am × Nat)) (k : Nat) (w : World) (x : Pr) (h : Ps bp a cap L k w) (hT : Tk L) (hk : k < L.length) (hl : ¬ least <= 4) (hm : ck 5 [45] (aA L k) = true) (hr : run (f + 1) (.unary least) (aA L k) = some x) :
    Calls Tryz.prog 113 #[.pointer (some ⟨bp, 0, none⟩), .int .i64 least] w (PR gA bp L k w x) := by
 have z354185a := trivial;exact Sq354185
end Go.Proofs.YteljlahcdipilaaGreat

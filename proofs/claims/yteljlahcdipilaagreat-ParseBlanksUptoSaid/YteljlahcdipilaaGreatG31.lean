/- Parts Q20, Q21, Q22 of this seat (pruned, scripts that are alike kept once as default arguments: q1, q2, ..). Conditions: each says its own. -/
import Derived.Test.YteljlahcdipilaaGreatG30
set_option linter.unusedSimpArgs false
set_option linter.unusedVariables false
set_option maxRecDepth 1000000
set_option maxHeartbeats 64000000
namespace Go.Proofs.YteljlahcdipilaaGreat
open Go.RowKit Go.Shelf
theorem uh {f : Nat} (HR : sy f) (n : Nat) (h8 : n <= 8) : cL 113 [.int .i64 n] (.unary n) gA (f + 1) := fun bp a cap L k w x h hT hk hr => by
  by_cases h4 : n <= 4
  · cases hn : ck 2 fm (aA L k) with
    | true => exact tZ HR n h8 bp a cap L k w x h hT hk h4 hn hr
    | false =>
      cases hm : ck 5 [45] (aA L k) with
      | true => exact rh HR n h8 bp a cap L k w x h hT hk h4 hn hm hr
      | false => exact ld HR n h8 bp a cap L k w x h hT hk (fun e => by rw [hn] at e; cases e.2) hm hr
  · cases hm : ck 5 [45] (aA L k) with
    | true => exact ri HR n h8 bp a cap L k w x h hT hk h4 hm hr
    | false => exact ld HR n h8 bp a cap L k w x h hT hk (fun e => h4 e.1) hm hr
theorem cL.zero {F : FuncId} {args : List Value} {g : G} {Rt : V -> Value -> World -> World -> Prop} : cL F args g Rt 0 := fun _ _ _ _ _ _ _ _ _ _ h => by cases h
theorem nT : ∀ f : Nat, sy f
  | 0 => ⟨fun g hg n _ => by rw [Nat.le_zero.1 hg]; exact cL.zero, fun g hg n _ => by rw [Nat.le_zero.1 hg]; exact cL.zero, fun g hg => by rw [Nat.le_zero.1 hg]; exact cL.zero, fun g hg t _ => by rw [Nat.le_zero.1 hg]; exact cL.zero, fun g hg => by rw [Nat.le_zero.1 hg]; exact cL.zero⟩
  | f + 1 => by
    have HR := nT f;have hc : ∀ g, g <= f + 1 -> g <= f \/ g = f + 1 := fun g h => by omega
    refine ⟨fun g hg n h8 => ?_, fun g hg n h8 => ?_, fun g hg => ?_, fun g hg t ht => ?_, fun g hg => ?_⟩ <;> rcases hc g hg with h | rfl
    · exact HR.expr g h n h8
    · exact fun bp a cap L k w x h hT hk hr => wH HR n h8 bp a cap L k w x h hT hk hr
    · exact HR.unary g h n h8
    · exact uh HR n h8
    · exact HR.atom g h
    · exact fun bp a cap L k w x h hT hk hr => wJ HR bp a cap L k w x h hT hk hr
    · exact HR.list g h t ht
    · exact fun bp a cap L k w x h hT hk hr => wI HR t bp a cap L k w x h hT hk hr
    · exact HR.props g h
    · exact fun bp a cap L k w x h hT hk hr => uc HR bp a cap L k w x h hT hk hr
theorem lj (f n : Nat) (h : n <= 8) : cL 97 [.int .i64 n] (.expr n) gA f := (nT f).expr f (Nat.le_refl _) n h
theorem sB (f : Nat) : cL 122 [] .props AC f := (nT f).props f (Nat.le_refl _)
def zU (w : World) (cs : List Value) (o : oc) : Prop := j5 w.heap.size w cs o
def zV (w : World) (cs : List Value) (o : od) : Prop := j6 w.heap.size w cs o
def wK (w : World) (cs : List Value) (o : lL) : Prop := iT w.heap.size w cs o
def AF (w : World) (cs : List Value) (o : mj) : Prop := ji w.heap.size w cs o
def AG (w : World) (cs : List Value) (o : oe) : Prop := jj w.heap.size w cs o
def AH (w : World) (cs : List Value) (o : lD) : Prop := jk w.heap.size w cs o
def jG (w : World) (cs : List Value) (o : dS) : Prop := df w.heap.size w cs o
def AI (w : World) (cs : List Value) (o : vC) : Prop := j7 w.heap.size w cs o
def fg {α : Type} (R : World -> List Value -> α -> Prop) (pr : V -> α) (v : V) (val : Value) (w w' : World) : Prop := ∃ S cs, val = .agg (List.toArray cs) /\ (∀ b, S b -> w.heap.size <= b) /\ HG (fun u => R u cs (pr v)) S w'
def Bq {α : Type} (R : World -> List Value -> α -> Prop) (size : Nat) (pr : V -> List α) (v : V) (val : Value) (w w' : World) : Prop := ∃ S xa xc, val = .slice xa (pr v).length xc /\ (∀ b, S b -> w.heap.size <= b) /\ HG (fun u => cg (R u) size u.heap.size u xa (pr v)) S w' /\ aZ xa (pr v).length xc
theorem fg.mk {α : Type} {R : World -> List Value -> α -> Prop} {pr : V -> α} {v : V} {t : α} {w u : World} {S : Nat -> Prop} {ds : List Value} (hX : HG (fun u => R u ds t) S u) (hv : pr v = t) (hS : ∀ b, S b -> w.heap.size <= b) : fg R pr v (.agg (List.toArray ds)) w u := ⟨S, ds, rfl, hS, by rw [hv]; exact hX⟩
theorem HG.and {P Q : World -> Prop} {S1 S2 : Nat -> Prop} {w : World} (h1 : HG P S1 w) (h2 : HG Q S2 w) : HG (fun u => P u /\ Q u) (fun b => S1 b \/ S2 b) w :=
  ⟨fun b h => h.elim (h1.1 b) (h2.1 b), fun u hu => ⟨h1.2 u fun b h => hu b (.inl h), h2.2 u fun b h => hu b (.inr h)⟩⟩
theorem HG.pure {P : World -> Prop} (w : World) (h : ∀ u, P u) : HG P (fun _ => False) w := ⟨fun _ h => h.elim, fun u _ => h u⟩
theorem ae.all {w : World} {b : Nat} {cur : List Value} {t : TypeId} (h : ae w b cur t) (vs : List Value) (hl : vs.length = cur.length) : ae (w.setCells b 0 vs) b vs t := by
 have h2 := ae.setCells vs 0 w cur h;rw [jC _ _ _ (by omega)] at h2;simpa using h2
theorem ae.rng {w : World} {b : Nat} {cs : List Value} {t : TypeId} (h : ae w b cs t) : w.rangeAt b 0 cs := fun j v hv => by rw [Nat.zero_add]; exact h.cell hv
theorem lm {S : Nat -> Prop} {w : World} {cs : List Value} {o : oc} (h : HG (fun u => zU u cs o) S w) : ∃ var la ln lc ka kn kc xa xn xc, cs = [.string var, .slice la ln lc, .slice ka kn kc, .slice xa xn xc] := by
 obtain ⟨la, lc, ka, kc, xa, xc, h0, -⟩ := h.is;exact ⟨_, _, _, _, _, _, _, _, _, _, h0⟩
theorem wL {S : Nat -> Prop} {w : World} {cs : List Value} {o : od} (h : HG (fun u => zV u cs o) S w) : ∃ var ty d ka kn kc xa xn xc, cs = [.string var, .string ty, .int .i64 d, .slice ka kn kc, .slice xa xn xc] := by
 obtain ⟨ka, kc, xa, xc, h0, -⟩ := h.is;exact ⟨_, _, _, _, _, _, _, _, _, h0⟩
theorem pP {S : Nat -> Prop} {w : World} {cs : List Value} {o : lL} (h : HG (fun u => wK u cs o) S w) : ∃ ka kn kc xa xn xc, cs = [.slice ka kn kc, .slice xa xn xc] := by
 obtain ⟨ka, kc, xa, xc, h0, -⟩ := h.is;exact ⟨_, _, _, _, _, _, h0⟩
theorem ix {w : World} {ds : List Value} {t : Ex} {B : Nat} (h1 : bK B w ds t) : ∃ op nm vk vb vi vs la ln lc ka kn kc na nn nc xa xn xc,
    ds = [.int .i64 op, .string nm, .int .i64 vk, .bool vb, .int .i64 vi, .string vs, .slice la ln lc, .slice ka kn kc, .slice na nn nc, .slice xa xn xc] := by
 obtain ⟨op, nm, v, ns, az⟩ := t;obtain ⟨vk, vb, vi, vs, vl, vks, la, lc, ka, kc, na, nc, xa, xc, -, rfl, -⟩ := h1.cells;exact ⟨_, _, _, _, _, _, _, _, _, _, _, _, _, _, _, _, _, _, rfl⟩
theorem pQ {S : Nat -> Prop} {w : World} {cs : List Value} {o : mj} (h : HG (fun u => AF u cs o) S w) : ∃ op nm vk vb vi vs la ln lc ka kn kc na nn nc xa xn xc as9,
    cs = [.int .i64 op, .string nm, .int .i64 vk, .bool vb, .int .i64 vi, .string vs, .slice la ln lc, .slice ka kn kc, .slice na nn nc, .slice xa xn xc, .string as9] := by
 obtain ⟨xe, h0, h1⟩ := h.is;obtain ⟨op, nm, vk, vb, vi, vs, la, ln, lc, ka, kn, kc, na, nn, nc, xa, xn, xc, rfl⟩ := ix h1;exact ⟨_, _, _, _, _, _, _, _, _, _, _, _, _, _, _, _, _, _, _, h0⟩
theorem fY {S : Nat -> Prop} {w : World} {cs : List Value} {o : dS} (h : HG (fun u => jG u cs o) S w) : ∃ kd a1 n1 c1 a2 n2 c2 op nm vk vb vi vs la ln lc ka kn kc na nn nc xa xn xc vr a5 n5 c5 un a7 n7 c7 a8 n8 c8 a9 n9 c9 a10 n10 c10 a11 n11 c11 de,
    cs = [.int .i64 kd, .slice a1 n1 c1, .slice a2 n2 c2, .int .i64 op, .string nm, .int .i64 vk, .bool vb, .int .i64 vi, .string vs, .slice la ln lc, .slice ka kn kc, .slice na nn nc, .slice xa xn xc, .string vr, .slice a5 n5 c5, .bool un, .slice a7 n7 c7, .slice a8 n8 c8, .slice a9 n9 c9, .slice a10 n10 c10, .slice a11 n11 c11, .bool de] := by
 obtain ⟨a1, c1, a2, c2, xe, a5, c5, a7, c7, a8, c8, a9, c9, a10, c10, a11, c11, rfl, -, -, -, -, -, hE, -⟩ := h.is;obtain ⟨op, nm, vk, vb, vi, vs, la, ln, lc, ka, kn, kc, na, nn, nc, xa, xn, xc, rfl⟩ := ix hE;exact ⟨_, _, _, _, _, _, _, _, _, _, _, _, _, _, _, _, _, _, _, _, _, _, _, _, _, _, _, _, _, _, _, _, _, _, _, _, _, _, _, _, _, _, _, _, _, _, rfl⟩
section
variable {α : Type} {R : World -> List Value -> α -> Prop} {ty : TypeId} {size B : Nat} {S S2 : Nat -> Prop} {w w1 : World} {lv : Value} {l : List α}
theorem cS {P : Program} {ops : Array Oper} {o : Oper} {a : Act} {K : Act -> World -> Prop} {Q : Exit -> Act -> World -> Prop} {E : Prop} {u : World} (hgd : o.guard = none) (s x : Operand) (t : TypeId)
    (ho : o.op = .call { callee := .builtin .append, args := #[s, x], argTypes := #[t, t] }) {z : Value} {bytes : Nat} (ht : P.underlying t = some (.slice ty)) (hi : (P.info? ty).map (fun i => (i.zero, i.size, i.bytes)) = some (some z, size, bytes))
    (hzs : z.cells.size = size) (hsz : 0 < size) (hby : bytes <= 4294967296) {cs : List Value} {y : α} (h : dZ R ty size B S u lv l) (hx : HG (fun w' => R w' cs y) S2 u) (hl : cs.length = size) (hS2 : ∀ b, S2 b -> B <= b /\ lv.ownBlock ≠ some b)
    (hs : a.eval s = lv) (hxv : a.eval x = .slice (some ⟨u.heap.size, 0, none⟩) 1 1) (h1 : ∀ v ∈ cs, v.oneCell' = true) (hn : l.length <= 4097) (hB : B <= u.heap.size)
    (hK : ∀ lv' u', dZ R ty size B (fun b => S b \/ S2 b) u' lv' (l ++ [y]) -> (u.alloc (.cells cs.toArray ty)).grownBy u' lv.ownBlock -> (∀ b, lv.ownBlock = some b -> B <= b) -> (∀ b, lv'.ownBlock = some b -> lv.ownBlock = some b \/ b = u.heap.size + 1) -> K (a.put o.dst lv') u') :
    if Region.wanted o (yielded ops a.tmps) = true then Oper.wp P o a (u.alloc (.cells cs.toArray ty)) K Q else E := by
 have z838800a := trivial;exact Sq838800
theorem dZ.one_at {u : World} {g : Nat} {cs : List Value} {y : α} (hb : ae u g cs ty) (hx : HG (fun w' => R w' cs y) S u) (hl : cs.length = size) (hS : ∀ b, S b -> B <= b /\ b ≠ g) (hB : B <= g) : dZ R ty size B S u (.slice (some ⟨g, 0, none⟩) 1 1) [y] :=
  ⟨⟨cs, [cs], ⟨by simp [hl], .inr ⟨g, 1, cs.toArray, rfl, hB, by simpa [ae] using hb, Nat.le_refl _, by unfold maxLen; omega, by simp [hl], by simp [<- hl]⟩⟩, by simp, ⟨hx.1, fun u2 h2 => .cons (hx.2 u2 h2) hl .nil⟩⟩,
    fun b h => ⟨(hS b h).1, fun e => (hS b h).2 (Option.some.inj e).symm⟩⟩
theorem dZ.slice (h : dZ R ty size B S w lv l) : ∃ a n c, lv = .slice a n c := by
 obtain ⟨S', xa, xc, h1, -⟩ := h.fin;exact ⟨_, _, _, h1⟩
theorem dZ.one {u : World} {cs : List Value} {y : α} (hx : HG (fun w' => R w' cs y) S u) (hl : cs.length = size) (hS : ∀ b, S b -> B <= b) (hB : B <= u.heap.size) : dZ R ty size B S (u.alloc (.cells cs.toArray ty)) (.slice (some ⟨u.heap.size, 0, none⟩) 1 1) [y] :=
  ⟨⟨cs, [cs], ⟨by simp [hl], .inr ⟨u.heap.size, 1, cs.toArray, rfl, hB, by have := ae.new u cs ty; simpa [ae] using this, Nat.le_refl _, by unfold maxLen; omega, by simp [hl], by simp [<- hl]⟩⟩, by simp, ⟨fun b h => by have := hx.1 b h; simp; omega, fun u2 h2 => .cons (hx.2 u2 fun b h => (h2 b h).trans (Below.heap_alloc _ _ _ (hx.1 b h))) hl .nil⟩⟩,
    fun b h => ⟨hS b h, fun e => by have h1 := hx.1 b h; have h2 : u.heap.size = b := Option.some.inj e; omega⟩⟩
end
theorem Tryz.infoNp : (Tryz.prog.info? 85).map (fun i => (i.zero, i.size, i.bytes)) = some (some (.agg #[.string ⟨#[]⟩, .slice none 0 0, .slice none 0 0, .slice none 0 0]), 4, 88) := by kernel_rfl
theorem Tryz.infoEp : (Tryz.prog.info? 87).map (fun i => (i.zero, i.size, i.bytes)) = some (some (.agg #[.string ⟨#[]⟩, .string ⟨#[]⟩, .int .i64 0, .slice none 0 0, .slice none 0 0]), 5, 88) := by kernel_rfl
theorem Tryz.infoPt : (Tryz.prog.info? 58).map (fun i => (i.zero, i.size, i.bytes)) = some (some (.agg #[.slice none 0 0, .slice none 0 0]), 2, 48) := by kernel_rfl
theorem Tryz.infoIt : (Tryz.prog.info? 73).map (fun i => (i.zero, i.size, i.bytes)) = some (some (.agg (zX ++ [Value.string ⟨#[]⟩]).toArray), 11, 176) := by kernel_rfl
theorem Tryz.infoSo : (Tryz.prog.info? 89).map (fun i => (i.zero, i.size, i.bytes)) = some (some (.agg (zX ++ [Value.bool false]).toArray), 11, 168) := by kernel_rfl
theorem Tryz.infoSi : (Tryz.prog.info? 91).map (fun i => (i.zero, i.size, i.bytes)) = some (some (.agg ([Value.string ⟨#[]⟩, Value.string ⟨#[]⟩, Value.string ⟨#[]⟩] ++ zX).toArray), 13, 208) := by kernel_rfl
theorem lp (l : List am) (k : ByteArray -> List am -> O) (K : V -> List am -> O) : bnd (fB l k) K = fB l fun s r => bnd (k s r) K := by unfold fB; split <;> rfl
theorem jH (l : List am) (k : ByteArray -> List am -> O) (K : V -> List am -> O) : bnd (dY l k) K = dY l fun s r => bnd (k s r) K := by unfold dY; split <;> rfl
theorem pR (b : Bool) (l : List am) (k : List am -> O) (K : V -> List am -> O) : bnd (must b l k) K = must b l fun r => bnd (k r) K := by unfold must; split <;> rfl
theorem ki (o : O) (k K : V -> List am -> O) : bnd (bnd o k) K = bnd o fun v r => bnd (k v r) K := by
 cases o with
 | none => rfl
 | some p => cases p <;> rfl
theorem fN (v : V) (r : List am) (K : V -> List am -> O) : bnd (dX v r) K = K v r := rfl
structure BL (bp : Nat) (a : Option Addr) (cap : Nat) (L : List (am × Nat)) (w : World) (f b4 kb : Nat) (var : ByteArray) (K : V -> List am -> O) (x : Pr) (g k : Nat) (S : Nat -> Prop) (lv : Value) (l : List ByteArray) (u : World) : Prop where
  st : St bp a cap L w k u
  lt : k < L.length
  ln : l.length + kb <= k
  r4 : ae u w.heap.size [.string ⟨#[]⟩, .slice none 0 0, .slice none 0 0, .slice none 0 0] 85
  r5 : ae u b4 [.string var, lv, .slice none 0 0, .slice none 0 0] 85
  hb : w.heap.size < b4
  row : dZ RS 9 1 (b4 + 1) S u lv l
  le : g <= f
  rn : bnd (run g (.labels l) (aA L k)) K = some x
theorem zW {S1 S2 S3 : Nat -> Prop} {w : World} {var : ByteArray} {la ka xa : Option Addr} {lc kc xc : Nat} {ls ks : List ByteArray} {az : List Ex} (h1 : kZ S1 w la ls) (s1 : aZ la ls.length lc) (h2 : kZ S2 w ka ks) (s2 : aZ ka ks.length kc) (h3 : j8 S3 w xa az) (s3 : aZ xa az.length xc) :
    HG (fun u => zU u [.string var, .slice la ls.length lc, .slice ka ks.length kc, .slice xa az.length xc] ⟨var, ls, ks, az⟩) (fun b => (S1 b \/ S2 b) \/ S3 b) w :=
  ((HG.and h1 h2).and h3).imp fun u h => ⟨la, lc, ka, kc, xa, xc, rfl, s1, h.1.1, s2, h.1.2, s3, h.2⟩
theorem wM {f : Nat} (bp : Nat) (a : Option Addr) (cap : Nat) (L : List (am × Nat)) (k : Nat) (w : World) (x : Pr) (h : Ps bp a cap L k w) (hT : Tk L) (hk : k < L.length)  (hr : run (f + 1) (.node) (aA L k) = some x) :
    Calls Tryz.prog 101 #[.pointer (some ⟨bp, 0, none⟩)] w (PR (fg zU V.node) bp L k w x) := by
 have hr : Go.Proofs.YteljlahcdipilaaGreat.step (run f) (.node) (aA L k) = some x := hr;simp only [Go.Proofs.YteljlahcdipilaaGreat.step, aL, ar] at hr;have HT := aa hT;have HK0 := aa hk;have X0 := aa hr;have hbw := h.lt;obtain ⟨u0, hy0⟩ : ∃ u, w.alloc (.cells #[.string ⟨#[]⟩, .slice none 0 0, .slice none 0 0, .slice none 0 0] 85) = u := ⟨_, rfl⟩;have s0 : St bp a cap L w k u0 := by rw [<- hy0]; exact (St.start h).alloc _
 have b0 : ae u0 w.heap.size [.string ⟨#[]⟩, .slice none 0 0, .slice none 0 0, .slice none 0 0] 85 := by rw [<- hy0]; exact ae.new w _ _
 have B0r := aa b0;clear b0;have S0 := aa s0;have HU := aa hy0;clear s0 hy0 h hT hk hr;have z0 := B0r.out.lt;go_enter Tryz.func101, Tryz.ntmps101;go_upto_region 1 with fail;rw [HU.out];go_wp2_with (go_at_call 118; refine af.out ?_);refine af.mk ?_;refine (bu S0.out HT.out HK0.out X0.out).mono ?_;rintro e u1 (⟨p9, r9, rfl, rfl, f9⟩ | ⟨l1, x1, rfl, m1⟩)
 ·go_wp2_with fail;exact ⟨rfl, f9⟩
 have X1 := aa x1;have HK1 := aa l1;clear x1 l1;have S1 := aa (S0.out.call m1);have B1r := aa (m1.blk B0r.out (by omega));have zw1 := S1.out.size;have zz1 := Mv.size m1;clear m1;go_wp2_with (go_at_call 119; refine af.out ?_);refine af.mk ?_;refine (pO S1.out HT.out HK1.out).mono ?_;rintro e u2 ⟨var, k2, hmy, q2, l2, rfl, m2⟩;have X2 := aa X1.out;simp only [aL, ar, hmy] at X2;have HK2 := aa l2;clear l2 hmy;have S2 := aa (S1.out.call m2);have B2r := aa (m2.blk B1r.out (by omega));have zw2 := S2.out.size;have zz2 := Mv.size m2;clear m2;have hTh := ah (ae.new u2 [.string ⟨#[]⟩, .slice none 0 0, .slice none 0 0, .slice none 0 0] 85) 0 4 (Nat.le_refl 4);go_wp2_with (first | (refine wpList_store_mid rfl 85 _ _ rfl u2.heap.size 0 #[.string var, .slice none 0 0, .slice none 0 0, .slice none 0 0] rfl rfl hTh (by kernel_rfl) (by simp [Value.oneCell']) ?_))
 go_frame
 obtain ⟨b4, hb4⟩ := nam u2.heap.size;rw [hb4];obtain ⟨u3, hu3⟩ : ∃ u, (u2.alloc (.cells #[.string ⟨#[]⟩, .slice none 0 0, .slice none 0 0, .slice none 0 0] 85)).setCells b4 0 ((#[.string var, .slice none 0 0, .slice none 0 0, .slice none 0 0] : Array Value).toList) = u := ⟨_, rfl⟩;rw [hu3];have zb4 : b4 < u3.heap.size /\ w.heap.size < b4 /\ u2.heap.size <= u3.heap.size /\ u2.heap.size = b4 := by have := B2r.out.lt; rw [<- hu3, aQ, <- hb4]; simp <;> omega
 have S3 := aa (show St bp a cap L w k2 u3 from by rw [<- hu3]; exact (S2.out.alloc _).sets (by have := S2.out.size; omega) 0 _);have B3r := aa (show ae u3 _ _ _ from by rw [<- hu3]; exact (B2r.out.alloc _).of_heap (ak (by have := B2r.out.lt; omega) _ 0 _));have B3b := aa (show ae u3 b4 [.string var, .slice none 0 0, .slice none 0 0, .slice none 0 0] 85 from by rw [<- hu3, <- hb4]; exact (ae.new u2 [.string ⟨#[]⟩, .slice none 0 0, .slice none 0 0, .slice none 0 0] 85).all [.string var, .slice none 0 0, .slice none 0 0, .slice none 0 0] rfl);clear hu3 hb4 hTh;obtain ⟨K, hK⟩ : ∃ K : V -> List am -> O, (fun v r => if ck 5 [123] r = true then bnd (run f G.props r) fun p r2 => must (ck 5 [41] r2) r2 fun r3 => dX (.np ⟨var, v.strs, p.strs, p.exs⟩) r3 else must (ck 5 [41] r) r fun r3 => dX (.np ⟨var, v.strs, [], []⟩) r3) = K := ⟨_, rfl⟩;have XK := X2.out;rw [hK] at XK;have HKD := aa hK;clear hK
 go_loopg [] f (fun g wr => ∃ k0 S lv l, Hid (BL bp a cap L w f b4 k2 var K x g k0 S lv l wr))
 case atStart => exact ⟨k2, _, _, [], aa ⟨S3.out, HK2.out, by simp, B3r.out, B3b.out, by omega, dZ.nil, Nat.le_refl _, XK⟩⟩
 case round =>
  clear XK X2 X1 X0 S3 S2 S1 S0 B3r B3b B2r B1r B0r HU;obtain ⟨k0, S, lv, l, hP⟩ := hrel;have hP := hP.out;cases gk with
  | zero => exact absurd hP.rn (by intro h; cases h)
  | succ g =>
   have rn : bnd (Go.Proofs.YteljlahcdipilaaGreat.step (run g) (.labels l) (aA L k0)) K = some x := hP.rn;simp only [Go.Proofs.YteljlahcdipilaaGreat.step, aL, ar] at rn;have S10 := aa hP.st;have R10a := aa hP.row;have B10r := aa hP.r4;have B10b := aa hP.r5;have HK10 := aa hP.lt;have hln := hP.ln;have hll := hP.lt;have hL := hP.st.ln;have hgf := hP.le;have hb4 := hP.hb;have zb5 := hP.r5.lt;have RN := aa rn;clear hP rn;cases h58 : ck 5 [58] (aA L k0) with
   | true =>
    have RY := RN.out;simp only [h58, if_true, lp] at RY;have RX := aa RY;clear RY;go_wp2_with (go_at_call 103; refine af.out ?_);refine af.mk ?_;refine (cp S10.out HK10.out h58).mono ?_;rintro e u11 ⟨rfl, m11⟩;have S11 := aa (S10.out.call m11);have B11r := aa (m11.blk B10r.out (by omega));have B11b := aa (m11.blk B10b.out (by omega));have R11a := aa (R10a.out.mv m11 (by omega));have zw11 := S11.out.size;have zz11 := Mv.size m11;clear m11;have HK11 := aa (HT.out.next HK10.out h58 (by decide));go_upto_region 4 with fail;obtain ⟨u12, hu12⟩ := nam u11.drew;have S12 := aa (show St bp a cap L w (k0 + 1) u12 from by rw [<- hu12]; exact S11.out.drew);have zz12 : u11.heap.size = u12.heap.size := by rw [<- hu12]; rfl
    have B12r := aa (B11r.out.of_heap (w' := u12) (by rw [<- hu12]; rfl));have B12b := aa (B11b.out.of_heap (w' := u12) (by rw [<- hu12]; rfl));have R12a := aa (R11a.out.same (w1 := u12) (fun _ _ => by rw [<- hu12]; rfl));refine aR (S := (fun w' : World => w'.cell? ⟨b4, 1, none⟩ = some (lv))) (fun j => j == 7) (by kernel_rfl) ?_;rw [hu12];clear hu12;have hHeld : ((fun w' : World => w'.cell? ⟨b4, 1, none⟩ = some (lv))) u12 := B12b.out.cell (i := 1) rfl;refine Jt 0 ?_;refine Jl 1 ?_;refine Jt 2 ?_;refine Jr 3 fun KK hKK => ?_
    go_simp;go_at_call 120;refine (gw S12.out HT.out HK11.out RX.out).mono ?_;rintro e u13 (⟨p9, r9, rfl, rfl, f9⟩ | ⟨n13, l13, x13, rfl, m13⟩)
    ·exact ⟨rfl, f9⟩
    have X13 := aa x13;have HK13 := aa l13;clear x13 l13;have S13 := aa (S12.out.call m13);have B13r := aa (m13.blk B12r.out (by omega));have B13b := aa (m13.blk B12b.out (by omega));have R13a := aa (R12a.out.mv m13 (by omega));have zw13 := S13.out.size;have zz13 := Mv.size m13;clear m13;refine hKK _ _ (fun _ _ => B13b.out.cell (i := 1) rfl) ?_;clear hKK KK hHeld;have hHeld := B13b.out.cell (i := 1) rfl;refine Jn ?_;refine Jr 4 fun KK hKK => ?_
    go_simp;refine hKK _ _ (fun _ _ => (B13b.out.alloc _).cell (i := 1) rfl) ?_;clear hKK KK hHeld;have hHeld := (B13b.out.alloc (.cells #[.string n13] 9)).cell (i := 1) rfl;refine Jn ?_;refine Jr 5 fun KK hKK => ?_
    refine cS (R := RS) rfl _ _ 62 rfl Tryz.underlying62 Tryz.infoS rfl (by decide) (by decide) R13a.out (sA u13 n13) rfl (fun _ h => h.elim) rfl rfl (by simp [Value.oneCell']) (by omega) (by omega) ?_;intro lv14 u14 hR hg ho hp;obtain ⟨ga14, gn14, gc14, rfl⟩ := hR.slice;have S14 := aa ((S13.out.alloc _).grown hg (fun q e => by have := ho q e; omega));have R14a := aa hR;have zz14 : u13.heap.size + 1 <= u14.heap.size := by have := hg.size; simpa using this
    have B14r := aa (B13r.out.of_heap (w' := u14) ((hg.block _ (by have := B13r.out.lt; simp; omega) (fun e => by have := ho _ e.symm; omega)).trans (Below.heap_alloc _ _ _ B13r.out.lt)));have B14b := aa (B13b.out.of_heap (w' := u14) ((hg.block _ (by have := B13b.out.lt; simp; omega) (fun e => by have := ho _ e.symm; omega)).trans (Below.heap_alloc _ _ _ B13b.out.lt)));refine hKK _ _ (fun _ _ => B14b.out.cell (i := 1) rfl) ?_;clear hKK KK hHeld;have hHeld := B14b.out.cell (i := 1) rfl;refine Jn ?_;refine Jt 6 ?_;refine Jr 7 fun KK hKK => ?_
    have d1 := B14b.out.free 1;have c1 := B14b.out.cell (i := 1) rfl;go_simp;have c1 := B14b.out.cell (i := 1) rfl;have d1 := B14b.out.free 1;clear c1 d1;obtain ⟨u15, hu⟩ : ∃ u, (u14.setCell ⟨b4, 1, none⟩ (.slice ga14 gn14 gc14)) = u := ⟨_, rfl⟩;rw [hu];have S15 := aa (show St bp a cap L w ((k0 + 1) + 1) u15 from by rw [<- hu]; exact (S14.out.set (by omega) 1 _));have zz15 : u15.heap.size = u14.heap.size := by rw [<- hu]; simp [World.size_setCell]
    have hk15 : ∀ q, q ≠ b4 -> u15.heap[q]? = u14.heap[q]? := fun q hq => by rw [<- hu, Below.heap_setCell _ ⟨b4, 1, none⟩ _ q hq]
    have B15r := aa (B14r.out.of_heap (hk15 _ (by omega)));have B15b := aa (show ae u15 b4 [.string var, .slice ga14 gn14 gc14, .slice none 0 0, .slice none 0 0] 85 from by rw [<- hu]; exact (B14b.out.set 1 _));have R15a := aa (R14a.out.same (w1 := u15) (fun b hb => hk15 b (fun e => by have := (R14a.out.lt hb).1; omega)));clear hu hk15;refine hKK _ _ (fun h => absurd h (by decide)) ?_;clear hKK KK hHeld;refine Jn ?_;refine aK (by kernel_rfl) ?_ _;go_wp2_with fail;go_roundg g;case measure => omega
    case rel => exact ⟨((k0 + 1) + 1), _, (.slice ga14 gn14 gc14), l ++ [n13], aa ⟨S15.out, HK13.out, by simp; omega, B15r.out, B15b.out, hb4, R15a.out, by omega, X13.out⟩⟩
   | false =>
    have RY := RN.out;simp only [h58, if_false, Bool.false_eq_true, fN] at RY;rw [<- HKD.out] at RY;have RX := aa RY;clear RY;go_wp2_with (go_at_call 103; refine af.out ?_);refine af.mk ?_;refine (cq S10.out HK10.out h58).mono ?_;rintro e u11 ⟨rfl, m11⟩;have S11 := aa (S10.out.call m11);have B11r := aa (m11.blk B10r.out (by omega));have B11b := aa (m11.blk B10b.out (by omega));have R11a := aa (R10a.out.mv m11 (by omega));have zw11 := S11.out.size;have zz11 := Mv.size m11;clear m11;obtain ⟨Sl, la, lc, rfl, hsl, hSl, hRl⟩ := R11a.out.fin;have VL0 := aa (show kZ Sl u11 la l from hRl.imp fun u h => lf h);have HSL := aa hsl;have hSL : ∀ q, Sl q -> b4 + 1 <= q := fun q hq => (R11a.out.lt (hSl q hq)).1
    clear hRl hsl;obtain ⟨ln, hln2⟩ := nam l.length;rw [hln2] at B11b HSL;have HLN := aa hln2;have V11l := VL0;clear VL0;have Nl := aa (show ∀ q, Sl q -> b4 + 1 <= q from hSL);have NPl := aa (show ¬ Sl bp from fun h => absurd (hSL _ h) (by omega));cases h123 : ck 5 [123] (aA L k0) with
    | true =>
     have RY := RX.out;simp only [h123, if_true] at RY;have RX := aa RY;clear RY;go_wp2_with (go_at_call 121; refine af.out ?_);refine af.mk ?_;refine (eJ S11.out HK10.out h123).mono ?_;rintro e u12 ⟨rfl, m12⟩;have S12 := aa (S11.out.call m12);have B12r := aa (m12.blk B11r.out (by omega));have B12b := aa (m12.blk B11b.out (by omega));have V12l := aa (V11l.out.mv m12 (fun h => absurd (Nl.out _ h) (by omega)));have zw12 := S12.out.size;have zz12 := Mv.size m12;clear m12;go_wp2_with (go_at_call 122; refine af.out ?_);refine af.mk ?_;refine ((sB f).go2 S12.out HT.out HK10.out RX.out).mono ?_;rintro e u13 (⟨p9, r9, rfl, rfl, f9⟩ | ⟨v13, k13, val13, q13, l13, x13, rfl, ⟨T13, ka13, kc13, xa13, xc13, rfl, hT13, hK13, hX13, hks13, hs13⟩, m13⟩)
     ·go_wp2_with fail;exact ⟨rfl, f9⟩
     have X13 := aa x13;have HK13 := aa l13;clear x13 l13;have S13 := aa (S12.out.call m13);have B13r := aa (m13.blk B12r.out (by omega));have B13b := aa (m13.blk B12b.out (by omega));have V13l := aa (V12l.out.mv m13 (fun h => absurd (Nl.out _ h) (by omega)));have zw13 := S13.out.size;have zz13 := Mv.size m13;clear m13;have V13k := aa hK13;clear hK13;have Nk := aa hT13;have V13x := aa hX13;have Nx := Nk;clear hX13;obtain ⟨kn, hkn⟩ := nam v13.strs.length;obtain ⟨xn, hxn⟩ := nam v13.exs.length;rw [hkn, hxn];rw [hkn] at hks13;rw [hxn] at hs13;obtain ⟨HKN, HXN, HSK, HSX⟩ := hd4 hkn hxn hks13 hs13;clear hkn hxn hks13 hs13;have c2 := B13b.out.cell (i := 2) rfl;have d2 := B13b.out.free 2;have c3 := B13b.out.cell (i := 3) rfl;have d3 := B13b.out.free 3;go_upto_region 7 with fail;clear c2 d2 c3 d3;obtain ⟨u14, hu⟩ : ∃ u, ((u13.setCell ⟨b4, 2, none⟩ (.slice ka13 kn kc13)).setCell ⟨b4, 3, none⟩ (.slice xa13 xn xc13)) = u := ⟨_, rfl⟩;rw [hu];have S14 := aa (show St bp a cap L w k13 u14 from by rw [<- hu]; exact ((S13.out.set (by omega) 2 _).set (by omega) 3 _));have zz14 : u14.heap.size = u13.heap.size := by rw [<- hu]; simp [World.size_setCell]
     have hk14 : ∀ q, q ≠ b4 -> u14.heap[q]? = u13.heap[q]? := fun q hq => by rw [<- hu, Below.heap_setCell _ ⟨b4, 3, none⟩ _ q hq, Below.heap_setCell _ ⟨b4, 2, none⟩ _ q hq]
     have B14r := aa (B13r.out.of_heap (hk14 _ (by omega)));have B14b := aa (show ae u14 b4 [.string var, .slice la ln lc, .slice ka13 kn kc13, .slice xa13 xn xc13] 85 from by rw [<- hu]; exact ((B13b.out.set 2 _).set 3 _));have V14l := aa (V13l.out.same (w1 := u14) (fun b hb => hk14 b (fun e => absurd (Nl.out _ hb) (by omega))));have V14k := aa (V13k.out.same (w1 := u14) (fun b hb => hk14 b (fun e => absurd (hT13 _ hb) (by omega))));have V14x := aa (V13x.out.same (w1 := u14) (fun b hb => hk14 b (fun e => absurd (hT13 _ hb) (by omega))));clear hu hk14;go_wp2_with (go_at_call 118; refine af.out ?_);refine af.mk ?_;refine (bu S14.out HT.out HK13.out X13.out).mono ?_;rintro e u15 (⟨p9, r9, rfl, rfl, f9⟩ | ⟨l15, x15, rfl, m15⟩)
     ·go_wp2_with fail;exact ⟨rfl, f9⟩
     have X15 := aa x15;have HK15 := aa l15;clear x15 l15;have S15 := aa (S14.out.call m15);have B15r := aa (m15.blk B14r.out (by omega));have B15b := aa (m15.blk B14b.out (by omega));have V15l := aa (V14l.out.mv m15 (fun h => absurd (Nl.out _ h) (by omega)));have V15k := aa (V14k.out.mv m15 (fun h => absurd (Nk.out _ h) (by omega)));have V15x := aa (V14x.out.mv m15 (fun h => absurd (Nx.out _ h) (by omega)));have zw15 := S15.out.size;have zz15 := Mv.size m15;clear m15;obtain rfl := Option.some.inj X15.out;have hRg := B15b.out.rng;have hTh := ah B15r.out 0 4 (Nat.le_refl 4);go_wp2_with (first | (refine wpList_load_mid rfl 85 _ rfl b4 0 rfl [.string var, .slice la ln lc, .slice ka13 kn kc13, .slice xa13 xn xc13] _ hRg Tryz.underlying85 rfl (by kernel_rfl) ?_) | (refine wpList_store_mid rfl 85 _ _ rfl w.heap.size 0 #[.string var, .slice la ln lc, .slice ka13 kn kc13, .slice xa13 xn xc13] rfl rfl hTh (by kernel_rfl) (by simp [Value.oneCell']) ?_));have B99 := B15r.out.all [.string var, .slice la ln lc, .slice ka13 kn kc13, .slice xa13 xn xc13] rfl;refine bodyPost_ret (results_cell_row (by rfl) _ _ w.heap.size 85 _ (0, 0) _ (by rfl) B99 Tryz.underlying85 rfl (by kernel_rfl)) rfl ?_;exact ⟨(k13 + 1), _, by omega, HK15.out, rfl, rfl, fg.mk ((by have h := zW (var := var) V15l.out (by rw [HLN.out]; exact HSL.out) V15k.out (by rw [HKN.out]; exact HSK.out) V15x.out (by rw [HXN.out]; exact HSX.out); rw [HLN.out, HKN.out, HXN.out] at h; exact h.sets 0 _ (fun h => by rcases h with (h | h) | h; exact absurd (Nl.out _ h) (by omega); exact absurd (hT13 _ h) (by omega); exact absurd (hT13 _ h) (by omega)))) (rfl) (fun b h => by rcases h with (h | h) | h; have := Nl.out b h; omega; have := hT13 b h; omega; have := hT13 b h; omega), (S15.out.sets (Nat.le_refl _) 0 _).mv⟩
    | false =>
     have RY := RX.out;simp only [h123, if_false, Bool.false_eq_true] at RY;have RX := aa RY;clear RY;go_wp2_with (go_at_call 121; refine af.out ?_);refine af.mk ?_;refine (eJ S11.out HK10.out h123).mono ?_;rintro e u12 ⟨rfl, m12⟩;have S12 := aa (S11.out.call m12);have B12r := aa (m12.blk B11r.out (by omega));have B12b := aa (m12.blk B11b.out (by omega));have V12l := aa (V11l.out.mv m12 (fun h => absurd (Nl.out _ h) (by omega)));have zw12 := S12.out.size;have zz12 := Mv.size m12;clear m12;go_wp2_with (go_at_call 118; refine af.out ?_);refine af.mk ?_;refine (bu S12.out HT.out HK10.out RX.out).mono ?_;rintro e u13 (⟨p9, r9, rfl, rfl, f9⟩ | ⟨l13, x13, rfl, m13⟩)
     ·go_wp2_with fail;exact ⟨rfl, f9⟩
     have X13 := aa x13;have HK13 := aa l13;clear x13 l13;have S13 := aa (S12.out.call m13);have B13r := aa (m13.blk B12r.out (by omega));have B13b := aa (m13.blk B12b.out (by omega));have V13l := aa (V12l.out.mv m13 (fun h => absurd (Nl.out _ h) (by omega)));have zw13 := S13.out.size;have zz13 := Mv.size m13;clear m13;obtain rfl := Option.some.inj X13.out;have hRg := B13b.out.rng;have hTh := ah B13r.out 0 4 (Nat.le_refl 4);go_wp2_with (first | (refine wpList_load_mid rfl 85 _ rfl b4 0 rfl [.string var, .slice la ln lc, .slice none 0 0, .slice none 0 0] _ hRg Tryz.underlying85 rfl (by kernel_rfl) ?_) | (refine wpList_store_mid rfl 85 _ _ rfl w.heap.size 0 #[.string var, .slice la ln lc, .slice none 0 0, .slice none 0 0] rfl rfl hTh (by kernel_rfl) (by simp [Value.oneCell']) ?_));have B99 := B13r.out.all [.string var, .slice la ln lc, .slice none 0 0, .slice none 0 0] rfl;refine bodyPost_ret (results_cell_row (by rfl) _ _ w.heap.size 85 _ (0, 0) _ (by rfl) B99 Tryz.underlying85 rfl (by kernel_rfl)) rfl ?_;exact ⟨(k0 + 1), _, by omega, HK13.out, rfl, rfl, fg.mk ((by have h := zW (var := var) V13l.out (by rw [HLN.out]; exact HSL.out) (show kZ (fun _ => False) u13 none [] from HG.pure _ fun _ => .inl rfl) al (show j8 (fun _ => False) u13 none [] from HG.pure _ fun _ => ax) al; rw [HLN.out] at h; exact h.sets 0 _ (fun h => by rcases h with (h | h) | h; exact absurd (Nl.out _ h) (by omega); exact h; exact h))) (rfl) (fun b h => by rcases h with (h | h) | h; have := Nl.out b h; omega; exact h.elim; exact h.elim), (S13.out.sets (Nat.le_refl _) 0 _).mv⟩
end Go.Proofs.YteljlahcdipilaaGreat

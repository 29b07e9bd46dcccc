/- The texts Jr, Sc of this seat, one behind the other. Conditions: each says its own. -/
import Derived.Sort.LoopGhostIn
import Derived.Test.YtjoopjmcnkiieaaM7

/- A region that draws its order, inside a wide fence or a round in it; marks of deferred calls. Conditions: the region defers nothing. -/
namespace Go.Proofs.Ytjoopjmcnkiieaa
open Go.RowKit Go.Lib Go.Shelf
set_option linter.unusedSimpArgs false
set_option linter.unusedVariables false

/-- The fence bars nothing. -/
def Lets (F : Fence) : Prop := F = Fence.wide ∨ ∃ l, F = Fence.wide.inRound l
theorem Lets.calls {F : Fence} {n : Nat} {P : Program} {f : FuncId} {args : Array Value} {w : World} {R : Ending → World → Prop} (hF : Lets F) (h : Calls P f args w R) : CallsIn F n P f args w R := by
  rcases hF with rfl | ⟨l, rfl⟩
  · exact callsIn_wide.2 h
  · exact CallsIn.inRound l (callsIn_wide.2 h)
theorem Lets.rows {F : Fence} {n : Nat} {P : Program} {row : String} {args : Array Value} {w : World} {R : Value → World → Prop} (hF : Lets F) (h : Rows P row args w R) : RowsIn F n P row args w R := by
  intro c cs _
  obtain ⟨v, w', r, s⟩ := h c cs
  refine ⟨v, w', r, ?_⟩
  rcases hF with rfl | ⟨l, rfl⟩
  · exact stepsIn_wide.2 s
  · rw [fenced_inRound]; exact stepsIn_wide.2 s
theorem Lets.fn {F : Fence} (hF : Lets F) (f : FuncId) : F.fn f := by
  rcases hF with rfl | ⟨l, rfl⟩ <;> trivial
theorem Lets.depth {F : Fence} (hF : Lets F) : F.depth = none := by
  rcases hF with rfl | ⟨l, rfl⟩ <;> rfl
def noDefer (ops : Array Oper) : Bool := ops.all fun o => match o.op with | .defer _ => false | _ => true
theorem noDefer_spec {ops : Array Oper} (h : noDefer ops = true) {i : Nat} {o : Oper} (ho : ops[i]? = some o) : ∀ c, o.op ≠ .defer c := by
  intro c hc
  unfold noDefer at h
  rw [Array.all_eq_true'] at h
  have := h o (Array.mem_of_getElem? ho)
  rw [hc] at this
  cases this
section
variable {P : Program} {ops : Array Oper} {Q : Exit → Act → World → Prop} {md : Region.Mode} {F : Fence} {n : Nat}
theorem upon_in {o : Oper} {a : Act} {K : Act → World → Prop} (hF : Lets F) (hout : ¬ LetsOut Q) : ∀ r : Result Next, o.upon P a K Q r → o.uponIn F n P a K Q r := by
  intro r h
  have hd : F.depth.isSome = true → 1 ≤ n := fun h => by rw [hF.depth] at h; cases h
  cases r with
  | ok x w =>
    cases x with
    | value v => exact h
    | skip => exact h
    | defer d => exact h
    | enter f args =>
      rw [Oper.upon_enter] at h
      rw [Oper.uponIn_enter]
      exact ⟨hd, hF.calls h⟩
    | row row args =>
      rw [Oper.upon_row] at h
      rw [Oper.uponIn_row]
      exact ⟨hd, hF.rows h⟩
    | _ => exact (h : False).elim
  | halt x w =>
    cases x <;> first | exact h | exact (h : False).elim
theorem wpAnyIn_of_wpAny (hF : Lets F) (hnd : noDefer ops = true) (hout : ¬ LetsOut Q) : ∀ (fuel : Nat) (listed : Array Bool) (a : Act) (w : World), wpAny P md ops Q fuel listed a w → wpAnyIn F n P md ops Q fuel listed a w
  | 0, _, _, _, h => h
  | fuel + 1, listed, a, w, h => ⟨h.1, fun i hi => by
    have h1 := h.2 i hi
    unfold wpOp at h1
    unfold wpOpIn
    cases ho : ops[i]? with
    | none => rw [ho] at h1; exact wpAnyIn_of_wpAny hF hnd hout fuel _ _ _ h1
    | some o =>
      rw [ho] at h1
      dsimp only at h1 ⊢
      by_cases hw : Region.wanted o (yielded ops a.tmps) = true
      · rw [if_pos hw] at h1 ⊢
        rcases h1 with h1 | ⟨_, h1⟩
        · refine ⟨fun f _ => hF.fn f, ?_⟩
          rw [Oper.semAt_eq _ _ _ (noDefer_spec hnd ho)]
          exact upon_in hF hout _ (Oper.wp_mono (fun a' w' h' => wpAnyIn_of_wpAny hF hnd hout fuel _ a' w' h') h1)
        · exact absurd h1 hout
      · rw [if_neg hw] at h1 ⊢
        exact ⟨fun f _ => hF.fn f, wpAnyIn_of_wpAny hF hnd hout fuel _ _ _ h1⟩⟩
/-- It goes on: no panic. -/
def GoesOn (Q : Exit → Act → World → Prop) : Exit → Act → World → Prop
  | .normal, a, w => Q .normal a w
  | _, _, _ => False
theorem GoesOn.normal {a : Act} {w : World} (h : Q .normal a w) : GoesOn Q .normal a w := h
theorem GoesOn.imp : ∀ (e : Exit) (a : Act) (w : World), GoesOn Q e a w → Q e a w := fun e a w h => by
  cases e <;> first | exact h | exact (h : False).elim
theorem wpIn_region_J {id : Nat} {a : Act} {w : World} {S : World → Prop} (hF : Lets F) (tl : Nat → Bool) (hm : P.follows .mixedOrders = true) (hnd : noDefer ops = true)
    (h : wpAnyJ P .any ops (GoesOn Q) S tl ops.size (Array.replicate ops.size false) a w.drew) : (Code.region id ops true).wpIn F n P Q a w :=
  wpIn_mono (wpIn_region_any hm (wpAnyIn_of_wpAny hF hnd (fun ⟨_, _, h⟩ => h) _ _ _ _ (wpAny_of_J _ _ _ _ h))) GoesOn.imp
end

/-- Deferred calls that are marks alone, of blocks that are there; the first one's is the newest. -/
def Marks (n₀ : Nat) : Nat → List Deferred → World → Prop
  | _, [], _ => True
  | m, d :: ds, w => ∃ D, d = { target := .collected D, args := #[] } ∧ n₀ ≤ D ∧ D < m ∧ w.heap[D]? = some (.deferred (some [])) ∧ Marks n₀ D ds w
theorem Marks.keep {n₀ : Nat} {u w : World} : ∀ {ds : List Deferred} {m : Nat}, Marks n₀ m ds u → (∀ D, D < m → u.heap[D]? = some (.deferred (some [])) → w.heap[D]? = some (.deferred (some []))) → Marks n₀ m ds w
  | [], _, _, _ => trivial
  | d :: ds, m, ⟨D, h1, h2, h3, h4, h5⟩, hk => ⟨D, h1, h2, h3, hk D h3 h4, h5.keep (fun D' h' => hk D' (by omega))⟩
theorem Marks.up {n₀ : Nat} {w : World} : ∀ {ds : List Deferred} {m m' : Nat}, Marks n₀ m ds w → m ≤ m' → Marks n₀ m' ds w
  | [], _, _, _, _ => trivial
  | d :: ds, m, m', ⟨D, h1, h2, h3, h4, h5⟩, hm => ⟨D, h1, h2, by omega, h4, h5⟩
theorem leaves_marks {F : Fence} {n : Nat} {P : Program} {fn : Func} {tmps : Array Value} {R : Ending → World → Prop} {n₀ B : Nat} {t : TypeId} {v : Value} : ∀ {ds : List Deferred} {m : Nat} {w : World}, n₀ ≤ w.heap.size → Marks n₀ m ds w → Boxed w B t v →
    (∀ w', Below n₀ w w' → Boxed w' B t v → LeavesInM F n P fn tmps R [] .returning w') → LeavesInM F n P fn tmps R ds .returning w
  | [], _, w, _, _, hx, h => h w (Below.refl _ _) hx
  | d :: ds, m, w, hn, ⟨D, h1, h2, h3, h4, h5⟩, hx, h => by
    refine ⟨by simp, .inl ⟨D, _, by rw [h1], run_takeDeferred h4, ?_⟩⟩
    have hlt : D < w.heap.size := (Array.getElem?_eq_some_iff.1 h4).1
    have hsz : (w.putObj D (.deferred none)).heap.size = w.heap.size := by simp [World.putObj]
    have hb : Below n₀ w (w.putObj D (.deferred none)) := (Below.refl n₀ w).grown (grownBy_putObj' w D (.deferred none)) (by omega) (fun k e => by cases e; omega)
    refine leaves_marks (n₀ := n₀) (m := D) ?_ ?_ ?_ (fun w' hb' hx' => h w' (hb.trans hb') hx')
    · rw [hsz]; exact hn
    · exact h5.keep (fun D' hD' hh => by rw [World.putObj_heap_other (by omega)]; exact hh)
    · exact hx.kept (grownBy_putObj' _ D (.deferred none)) (fun e => by
        injection e with e
        rw [← e, show w.heap[B]? = _ from hx] at h4; cases h4)
end Go.Proofs.Ytjoopjmcnkiieaa

/- The law IndexScans. Conditions: the acts can be read. -/
namespace Go.Proofs.Ytjoopjmcnkiieaa
open Go.RowKit Go.Lib Go.Maps Go.Shelf
set_option linter.unusedSimpArgs false
set_option linter.unusedVariables false
attribute [local go_sem] Oper.semAt_some

def valsOf (q : List (ByteArray × Int)) : List Value := (q.map (·.2)).map numV
/-- The tree, and what the reference has of the range. -/
def SC (w : World) (o tb : Nat) (l : List (ByteArray × Int)) (H : List ByteArray) (q : List (ByteArray × Int)) (kv vv : Value) (u : World) : Prop :=
  OT w o tb l H u ∧ Arr u 9 kv (keysOf q) ∧ Arr u 2 vv (valsOf q)
theorem SC.form1 {w u : World} {o tb : Nat} {l : List (ByteArray × Int)} {H : List ByteArray} {q : List (ByteArray × Int)} {kv vv : Value} (h : SC w o tb l H q kv vv u) : ∃ a c, kv = .slice a q.length c ∧ SC w o tb l H q (.slice a q.length c) vv u := by
  obtain ⟨a, c, rfl, _⟩ := h.2.1.form
  refine ⟨a, c, by simp [keysOf], ?_⟩
  have h2 := h
  simpa [keysOf] using h2
theorem SC.form2 {w u : World} {o tb : Nat} {l : List (ByteArray × Int)} {H : List ByteArray} {q : List (ByteArray × Int)} {kv vv : Value} (h : SC w o tb l H q kv vv u) : ∃ a c, vv = .slice a q.length c ∧ SC w o tb l H q kv (.slice a q.length c) u := by
  obtain ⟨a, c, rfl, _⟩ := h.2.2.form
  refine ⟨a, c, by simp [valsOf], ?_⟩
  have h2 := h
  simpa [valsOf] using h2
theorem LS.rpart {w u : World} {o tb xb : Nat} {lt lr : List (ByteArray × Int)} {Ht Hr : List ByteArray} {a b : ByteArray} (h : LS w [] o tb xb lt Ht lr Hr u) (hl : lr.length ≤ 1000000) :
    Calls Try.prog 10 #[.pointer (some ⟨xb, 0, none⟩), .string a, .string b] u fun e w' => ∃ kv vv, e = .returned (.tuple #[kv, vv]) ∧ SC w o tb lt Ht (part a b lr) kv vv w' := by
  obtain ⟨F, G, h1, h2, hB⟩ := h
  refine (rpart_any h2 hl).mono ?_
  rintro e w' ⟨kv, vv, rfl, h3⟩
  have hB2 := hB.right h3.fr h1.hi
  refine ⟨kv, vv, rfl, ⟨F, h1.frame (F := F) h3.fr (fun k => by have := hB.one k; omega), ⟨hB2.bel, fun k => by have := hB2.one k; omega, fun k hk => by have := hB2.low k hk; omega, fun b hb => by cases hb⟩⟩, ?_, h3.b⟩
  have := h3.a
  rw [List.map_map] at this
  exact this
theorem OT.stops {W w u : World} {o tb Bt Ba Bb m n : Nat} {l : List (ByteArray × Int)} {H : List ByteArray} (h : OT W o tb l H u) (ho2 : o ≤ 64) (hb : Below u.heap.size u w) (hm1 : u.heap.size ≤ m) (hm2 : m ≤ w.heap.size) {a b : ByteArray}
    (ct : w.cell? ⟨Bt, 0, none⟩ = some (.pointer (some ⟨tb, 0, none⟩))) (ca : w.cell? ⟨Ba, 0, none⟩ = some (.string a)) (cb : w.cell? ⟨Bb, 0, none⟩ = some (.string b)) :
    SeqStopsK Fence.wide n Try.prog 28 #[.pointer (some ⟨Bt, 0, none⟩), .pointer (some ⟨Ba, 0, none⟩), .pointer (some ⟨Bb, 0, none⟩)] encP (Below m) (fun ys => ys = part a b l) (fun pre => pre <+: part a b l) (part a b l).length w := by
  obtain ⟨F, h1, hB⟩ := h
  have htb := h1
  obtain ⟨d, t, mb, hb1, hm, hv, hfl, hM, hF, h1⟩ := h1
  have hlt : ∀ k, 0 < fp d t k → k < u.heap.size := fun k hk => by
    rcases Nat.lt_or_ge k u.heap.size with h2 | h2
    · exact h2
    · have h3 := htb.hi k h2
      rw [hF] at h3; omega
  have htl := hb1.lt
  have hcr := hb1.cell (i := 1) rfl
  have hst := scan_stops (o := o) (n₀ := m) (tb := tb) (Bt := Bt) (Ba := Ba) (Bb := Bb) n ho2 a b (mem_below hm hlt hb) hv (Nat.le_refl _) (fun k hk => Nat.lt_of_lt_of_le (hlt k hk) hm1) hm2 (Nat.lt_of_lt_of_le htl hm1) ct ca cb ((hb.cell (p := ⟨tb, 1, none⟩) htl).trans hcr)
  rw [hfl] at hst
  exact hst
structure ScR (m0 : Nat) (q : List (ByteArray × Int)) (pre : List (ByteArray × Int)) (W : World) : Prop where
  len : pre <+: q
  bx : Boxed W m0 3 (.int .i64 pre.length)
theorem ScR.own (m0 : Nat) (q : List (ByteArray × Int)) : Own (ScR m0 q) := by
  intro s X Y row h hg hr
  exact ⟨h.len, boxed_own' (β := Unit) _ _ _ () X Y row h.bx hg hr⟩
/-- How a round is left ahead of its end. -/
def ScX (m0 : Nat) (w4 : World) (q : List (ByteArray × Int)) (r : Nat) (stop : Int) (c : Code) (pre : List (ByteArray × Int)) (W : World) : Prop :=
  (c = .ret ∧ ¬ pre <+: q) ∨ (c = .exit 2 ∧ (r : Int) = 0 ∧ (pre.length : Int) = stop ∧ Boxed W m0 3 (.int .i64 pre.length) ∧ Below m0 w4 W)
theorem ScX.own (m0 : Nat) (w4 : World) (q : List (ByteArray × Int)) (r : Nat) (stop : Int) (c : Code) (hm : m0 ≤ w4.heap.size) : OwnFrom w4.heap.size (ScX m0 w4 q r stop c) := by
  intro s X Y row h hg hr
  rcases h with h | ⟨h1, h2, h3, h4, h5⟩
  · exact .inl h
  · exact .inr ⟨h1, h2, h3, boxed_own' (β := Unit) _ _ _ () X Y row h4 hg (fun r e => (hr r e).2), ownFrom_below (β := Unit) hm hm () X Y row h5 hg hr⟩
theorem Marks.set {n₀ m B : Nat} {ds : List Deferred} {w : World} {t : TypeId} {v : Value} (h : Marks n₀ m ds w) (hx : Boxed w B t v) (u : Value) : Marks n₀ m ds (w.setCell ⟨B, 0, none⟩ u) :=
  h.keep (fun D _ hh => ((Go.grownBy_setCell' w B u).block D (Array.getElem?_eq_some_iff.1 hh).1 (fun e => by
    injection e with e
    rw [e, show w.heap[B]? = _ from hx] at hh; cases hh)).trans hh)
theorem Marks.below {n₀ m k : Nat} {ds : List Deferred} {w w' : World} (h : Marks n₀ m ds w) (hb : Below k w w') (hm : m ≤ k) : Marks n₀ m ds w' := by
  obtain ⟨_, _, _, _, h5⟩ := hb
  exact h.keep (fun D hD hh => (h5 D (by omega)).trans hh)
theorem boxUpd {w : World} {B : Nat} {t : TypeId} {v : Value} (h : Boxed w B t v) (u : Value) {p : Addr} {x : Value} (hp : w.cell? p = some x) (hne : p.block ≠ B) : (w.setCell ⟨B, 0, none⟩ u).cell? p = some x := by
  have h1 := World.block_lt_of_cell? w p hp
  have h2 := (Go.grownBy_setCell' w B u).block p.block h1 (fun e => hne (by injection e))
  rw [← hp]
  unfold World.cell?
  rw [h2]
theorem boxBelow {W W' : World} {m B : Nat} {t : TypeId} {v : Value} (h : Boxed W B t v) (hb : Below m W W') (hB : B < m) : Boxed W' B t v := by
  obtain ⟨_, _, _, _, h5⟩ := hb
  exact (h5 B hB).trans h
theorem prefix_next {q pre : List (ByteArray × Int)} {y : ByteArray × Int} (h : pre <+: q) (hy : q[pre.length]? = some y) : pre ++ [y] <+: q := by
  obtain ⟨t, rfl⟩ := h
  cases t with
  | nil => simp at hy
  | cons z t =>
    simp at hy
    subst hy
    exact ⟨t, by simp⟩
theorem prefix_not {q pre : List (ByteArray × Int)} {x y : ByteArray × Int} (hy : q[pre.length]? = some y) (hne : x ≠ y) : ¬ pre ++ [x] <+: q := by
  rintro ⟨t, rfl⟩
  simp at hy
  exact hne hy
theorem prefix_over {q pre : List (ByteArray × Int)} {x : ByteArray × Int} (h : q.length ≤ pre.length) : ¬ pre ++ [x] <+: q := by
  intro h2
  have := h2.length_le
  simp at this
  omega
@[irreducible] def sl (tm : Array Value) (i : Nat) : Value := tm.getD i undef
set_option maxRecDepth 100000 in
set_option maxHeartbeats 16000000 in
theorem scans_any (most : Int) (a0 : Option Addr) (cap0 : Nat) (os : List Act25) (a b : ByteArray) (stop : Int) (W : World) (hrow : Cells W.heap.size W a0 (os.flatMap Act25.cells)) :
    Calls Try.prog 3 #[.int .i64 most, .slice a0 os.length cap0, .string a, .string b, .int .i64 stop] W fun e w' => e = .returned (.bool true) ∧ Below W.heap.size W w' := by
  obtain ⟨Q, hQ⟩ : ∃ Q, (fun (e : Ending) (w' : World) => e = .returned (.bool true) ∧ Below W.heap.size W w') = Q := ⟨_, rfl⟩
  have HQ : Hid (∀ u, Below W.heap.size W u → Q (.returned (.bool true)) u) := Lib.hid (fun u hb => by rw [← hQ]; exact ⟨rfl, hb⟩)
  rw [hQ]
  have HW := Lib.hid works_any
  have hbB : Below W.heap.size W ((W.alloc (.cells #[.int .i64 stop] 3)).alloc (.cells #[.bool false] 4)) := ((Below.refl _ W).alloc (Nat.le_refl _) _).alloc (by simp) _
  have HG := Lib.hid (grown_any most a0 cap0 os ((W.alloc (.cells #[.int .i64 stop] 3)).alloc (.cells #[.bool false] 4)) ((hrow.below hbB (Nat.le_refl _)).mono (by simp; omega)))
  have x0 := (Boxed.new W 3 (.int .i64 stop)).alloc (.cells #[.bool false] 4)
  have x1 := Boxed.new (W.alloc (.cells #[.int .i64 stop] 3)) 4 (.bool false)
  rw [World.size_alloc] at x1
  obtain ⟨ho3, ho2⟩ := ordN_ok most
  have hs2 : ((W.alloc (.cells #[.int .i64 stop] 3)).alloc (.cells #[.bool false] 4)).heap.size = W.heap.size + 2 := by simp
  obtain ⟨W1, hW1⟩ : ∃ W1, (W.alloc (.cells #[.int .i64 stop] 3)).alloc (.cells #[.bool false] 4) = W1 := ⟨_, rfl⟩
  rw [hW1] at HG x0 x1 hbB hs2
  have HW1 := Lib.hid hW1
  obtain ⟨ln, hln⟩ : ∃ ln, os.length = ln := ⟨_, rfl⟩
  rw [hln] at HG ⊢
  have HROW := Lib.hid hrow
  have HLN := Lib.hid hln
  have hEF := Try.eqlF
  clear hQ hrow hln hW1
  refine (callsIn_wide (n := 6)).1 ?_
  refine callsIn_of_wp_marks Try.func3 rfl trivial ?_ rfl
  simp only [Try.ntmps3, List.size_toArray, List.length_cons, List.length_nil, Nat.reduceAdd, Nat.reduceSub, Array.replicate_succ, Array.replicate_zero, List.push_toArray, List.append_toArray, List.nil_append, List.cons_append]
  gi_wp2_with (first
    | (refine ⟨trivial, ?_⟩; gi_at_call 9; rw [HW1.out]; refine (callsIn_wide.2 HG.out).mono ?_; clear HG; rintro e w1 ⟨tb, xb, rfl, hg⟩; have HT := Lib.hid (LS.rpart (a := a) (b := b) hg.tl (Nat.le_trans hg.l1 (by omega))); have HQL := Lib.hid (show (part a b (runS (os.take (min os.length 500))).1).length ≤ 1000000 from Nat.le_trans (List.length_filter_le (fun e => withinS e.1 a b) (runS (os.take (min os.length 500))).1) (Nat.le_trans hg.l1 (by omega : min os.length 500 ≤ 1000000))); clear hg)
    | (refine ⟨trivial, ?_⟩; gi_at_call 10; refine (callsIn_wide.2 HT.out).mono ?_; clear HT; rintro e w2 ⟨kv, vv, rfl, hs⟩; obtain ⟨ka, kc, rfl, hs⟩ := SC.form1 hs; obtain ⟨va, vc, rfl, hs⟩ := SC.form2 hs; have HS := Lib.hid hs; clear hs))
  obtain ⟨l, hl⟩ : ∃ l, (runS (os.take (min os.length 500))).1 = l := ⟨_, rfl⟩
  obtain ⟨Hh, hHh⟩ : ∃ Hh, (runS (os.take (min os.length 500))).2 = Hh := ⟨_, rfl⟩
  rw [hl, hHh] at HS
  rw [hl] at HQL ⊢
  clear hl hHh
  generalize ordN most = o at *
  obtain ⟨q, hq⟩ : ∃ q, part a b l = q := ⟨_, rfl⟩
  rw [hq] at HS HQL ⊢
  have hbW := HS.out.1.bel
  have hql : q.length ≤ 1000000 := HQL.out
  have hsz2 : W.heap.size + 2 ≤ w2.heap.size := by have := hbW.size; omega
  have z0 := boxBelow x0 hbW (by omega)
  have z1 := boxBelow x1 hbW (by omega)
  have y0 := (z0.alloc (.cells #[.slice ka q.length kc] 27)).alloc (.cells #[.slice va q.length vc] 28)
  have y1 := (z1.alloc (.cells #[.slice ka q.length kc] 27)).alloc (.cells #[.slice va q.length vc] 28)
  have y2 := (Boxed.new w2 27 (.slice ka q.length kc)).alloc (.cells #[.slice va q.length vc] 28)
  have y3 := Boxed.new (w2.alloc (.cells #[.slice ka q.length kc] 27)) 28 (.slice va q.length vc)
  have hB2 : Below w2.heap.size w2 ((w2.alloc (.cells #[.slice ka q.length kc] 27)).alloc (.cells #[.slice va q.length vc] 28)) := ((Below.refl _ w2).alloc (Nat.le_refl _) _).alloc (by simp) _
  have y4 := Boxed.new ((w2.alloc (.cells #[.slice ka q.length kc] 27)).alloc (.cells #[.slice va q.length vc] 28)) 3 (.int .i64 0)
  have hB3 := (Below.refl ((w2.alloc (.cells #[.slice ka q.length kc] 27)).alloc (.cells #[.slice va q.length vc] 28)).heap.size ((w2.alloc (.cells #[.slice ka q.length kc] 27)).alloc (.cells #[.slice va q.length vc] 28))).alloc (Nat.le_refl _) (.cells #[.int .i64 0] 3)
  simp only [World.size_alloc] at y3 y4
  obtain ⟨kb, hkb⟩ : ∃ kb, w2.heap.size = kb := ⟨_, rfl⟩
  obtain ⟨vb, hvb⟩ : ∃ vb, w2.heap.size + 1 = vb := ⟨_, rfl⟩
  obtain ⟨rb, hrb⟩ : ∃ rb, w2.heap.size + 1 + 1 = rb := ⟨_, rfl⟩
  have hu0 : ((w2.alloc (.cells #[.slice ka q.length kc] 27)).alloc (.cells #[.slice va q.length vc] 28)).heap.size = w2.heap.size + 1 + 1 := by simp
  rw [hrb, hvb, hkb]
  rw [hkb] at y2
  rw [hvb] at y3
  rw [hrb] at y4
  obtain ⟨w3, hw3⟩ : ∃ w3, ((w2.alloc (.cells #[.slice ka q.length kc] 27)).alloc (.cells #[.slice va q.length vc] 28)).alloc (.cells #[.int .i64 0] 3) = w3 := ⟨_, rfl⟩
  rw [hw3] at y4 hB3
  rw [hw3]
  clear hw3 z0 z1
  generalize (w2.alloc (.cells #[.slice ka q.length kc] 27)).alloc (.cells #[.slice va q.length vc] 28) = u0 at *
  obtain ⟨norm, hnorm⟩ : ∃ norm : Nat → (Nat → Value) → Array Value, norm = fun rb g => #[.int .i64 most, .slice a0 ln cap0, .string a, .string b, .int .i64 stop, g 5, g 6, g 7, g 8, .pointer (some ⟨W.heap.size, 0, none⟩), .pointer (some ⟨W.heap.size + 1, 0, none⟩), .pointer (some ⟨tb, 0, none⟩), .pointer (some ⟨xb, 0, none⟩), g 13, .pointer (some ⟨kb, 0, none⟩), .pointer (some ⟨vb, 0, none⟩), .pointer (some ⟨rb, 0, none⟩), g 17, g 18, g 19, g 20, g 21, g 22, g 23, g 24, g 25, g 26, g 27, g 28, g 29, g 30, g 31, g 32, g 33, g 34, g 35, g 36, g 37, g 38, g 39, g 40, g 41, g 42, g 43, g 44, g 45, g 46, g 47, g 48, g 49, g 50, g 51, g 52, g 53, g 54, g 55, g 56, g 57, g 58, g 59, g 60, g 61, g 62, g 63, g 64, g 65, g 66, g 67, g 68, g 69, g 70, g 71, g 72, g 73, g 74, g 75, g 76, g 77, g 78, g 79, g 80, g 81, g 82, g 83, g 84, g 85, g 86, g 87, g 88, g 89, g 90, g 91, g 92, g 93] := ⟨_, rfl⟩
  refine wpIn_loop_ghost (fun m a w => ∃ r rb : Nat, r ≤ 2 ∧ m = 2 - r ∧ a.tmps = norm rb (fun i => sl a.tmps i) ∧ u0.heap.size ≤ rb ∧ Below u0.heap.size u0 w ∧ Boxed w rb 3 (.int .i64 r) ∧ Marks u0.heap.size w.heap.size a.defers w) 2 ?start ?round
  case start => 
    refine ⟨0, rb, by omega, rfl, ?_, by omega, hB3, y4, trivial⟩
    rw [hnorm]
    unfold sl
    rfl
  case round =>
    clear y4 hB3 hrb rb
    rintro m ⟨tm, ds⟩ w ⟨r, rb, hr2, rfl, htm, hrbu, hBw, hxr, hM⟩
    dsimp only at htm hM
    rw [htm]
    clear htm
    generalize (fun i => sl tm i) = g
    clear tm
    have cr := hxr.cell
    have fr := hxr.frozen
    have HM := Lib.hid hM
    have HBW := Lib.hid hBw
    have HXR := Lib.hid hxr
    have HY0 := Lib.hid y0
    have HY1 := Lib.hid y1
    have HY2 := Lib.hid y2
    have HY3 := Lib.hid y3
    have HB2 := Lib.hid hB2
    have HNORM := Lib.hid hnorm
    have HBB := Lib.hid hbB
    have HBW1 := Lib.hid hbW
    have HQQ := Lib.hid hq
    have y1w := (boxBelow y1 hBw (by omega)).frozen
    have y1f := (boxBelow y1 hBw (by omega)).cell
    rw [hnorm]
    clear hM hBw hxr y0 y1 y2 y3 hB2 hnorm x0 x1 hbB hbW
    dsimp only
    by_cases hlt : r < 2
    · have hlt' : (r : Int) < 2 := by omega
      gi_wp2_with (refine ⟨trivial, ?_⟩; gi_at_call 11; refine (callsIn_wide.2 (scan_any tb a b _)).mono ?_; rintro e w' ⟨rfl, rfl⟩)
      have w17 := Boxed.new w 3 (.int .i64 0)
      have hBw4 : Below w.heap.size w ((((w.alloc (.cells #[.int .i64 0] 3)).alloc (.cells #[.pointer (some ⟨tb, 0, none⟩)] 23)).alloc (.cells #[.string a] 9)).alloc (.cells #[.string b] 9)) :=
        ((((Below.refl _ w).alloc (Nat.le_refl _) _).alloc (by simp) _).alloc (by simp; omega) _).alloc (by simp; omega) _
      have t4 := (((w17.alloc (.cells #[.pointer (some ⟨tb, 0, none⟩)] 23)).alloc (.cells #[.string a] 9)).alloc (.cells #[.string b] 9))
      have t1 := (((Boxed.new (w.alloc (.cells #[.int .i64 0] 3)) 23 (.pointer (some ⟨tb, 0, none⟩))).alloc (.cells #[.string a] 9)).alloc (.cells #[.string b] 9))
      have t2 := ((Boxed.new ((w.alloc (.cells #[.int .i64 0] 3)).alloc (.cells #[.pointer (some ⟨tb, 0, none⟩)] 23)) 9 (.string a)).alloc (.cells #[.string b] 9))
      have t3 := Boxed.new (((w.alloc (.cells #[.int .i64 0] 3)).alloc (.cells #[.pointer (some ⟨tb, 0, none⟩)] 23)).alloc (.cells #[.string a] 9)) 9 (.string b)
      have hs4 : ((((w.alloc (.cells #[.int .i64 0] 3)).alloc (.cells #[.pointer (some ⟨tb, 0, none⟩)] 23)).alloc (.cells #[.string a] 9)).alloc (.cells #[.string b] 9)).heap.size = w.heap.size + 4 := by simp
      simp only [World.size_alloc] at t1 t2 t3
      obtain ⟨w4, hw4⟩ : ∃ w4, (((w.alloc (.cells #[.int .i64 0] 3)).alloc (.cells #[.pointer (some ⟨tb, 0, none⟩)] 23)).alloc (.cells #[.string a] 9)).alloc (.cells #[.string b] 9) = w4 := ⟨_, rfl⟩
      rw [hw4] at t1 t2 t3 t4 hBw4 hs4
      rw [hw4]
      clear hw4 w17
      have hwsz := HBW.out.size
      have hrlt := HXR.out.lt
      have hB4 : Below w2.heap.size w2 w4 := (HB2.out.trans (HBW.out.mono (by omega))).trans (hBw4.mono (by omega))
      have hstops := HS.out.1.stops (n := 6 - 1) (m := w.heap.size) (Bt := w.heap.size + 1) (Ba := w.heap.size + 1 + 1) (Bb := w.heap.size + 1 + 1 + 1) (a := a) (b := b) ho2 hB4 (by omega) (by omega) t1.cell t2.cell t3.cell
      rw [HQQ.out] at hstops
      have HMW := Lib.hid (HM.out.below hBw4 (Nat.le_refl _))
      refine wpIn_rangeFunc_ownG rfl (by decide) (gf := 28) (lb := #[.pointer (some ⟨w.heap.size + 1, 0, none⟩), .pointer (some ⟨w.heap.size + 1 + 1, 0, none⟩), .pointer (some ⟨w.heap.size + 1 + 1 + 1, 0, none⟩)]) rfl trivial (enters_of Try.func28 (by kernel_rfl) rfl)
        hstops belowK_t (belowK_b (by omega)) (Below.refl _ _) ?hps
        (fun pre U => ScR w.heap.size q pre U ∧ Below w.heap.size w4 U) (fun c pre U => ScX w.heap.size w4 q r stop c pre U)
        (OwnFrom.and ((ScR.own w.heap.size q).from _) (ownFrom_below (by omega) (by omega)))
        (fun c => ScX.own w.heap.size w4 q r stop c (by omega))
        ⟨⟨List.nil_prefix, t4⟩, Below.refl _ _⟩ (fun x => { tmps := #[.int .i64 most, .slice a0 ln cap0, .string a, .string b, .int .i64 stop, g 5, g 6, g 7, g 8, .pointer (some ⟨W.heap.size, 0, none⟩), .pointer (some ⟨W.heap.size + 1, 0, none⟩), .pointer (some ⟨tb, 0, none⟩), .pointer (some ⟨xb, 0, none⟩), g 13, .pointer (some ⟨kb, 0, none⟩), .pointer (some ⟨vb, 0, none⟩), .pointer (some ⟨rb, 0, none⟩), .pointer (some ⟨w.heap.size, 0, none⟩), .func (.func 28) #[] #[.pointer (some ⟨w.heap.size + 1, 0, none⟩), .pointer (some ⟨w.heap.size + 1 + 1, 0, none⟩), .pointer (some ⟨w.heap.size + 1 + 1 + 1, 0, none⟩)], .string x.1, .int .i64 x.2, g 21, g 22, g 23, g 24, g 25, g 26, g 27, g 28, g 29, g 30, g 31, g 32, g 33, g 34, g 35, g 36, .int .i64 r, .bool true, g 39, g 40, .pointer (some ⟨tb, 0, none⟩), .string a, .string b, .func (.func 28) #[] #[.pointer (some ⟨w.heap.size + 1, 0, none⟩), .pointer (some ⟨w.heap.size + 1 + 1, 0, none⟩), .pointer (some ⟨w.heap.size + 1 + 1 + 1, 0, none⟩)], .func (.func 28) #[] #[.pointer (some ⟨w.heap.size + 1, 0, none⟩), .pointer (some ⟨w.heap.size + 1 + 1, 0, none⟩), .pointer (some ⟨w.heap.size + 1 + 1 + 1, 0, none⟩)], .bool false, .func (.func 28) #[] #[.pointer (some ⟨w.heap.size + 1, 0, none⟩), .pointer (some ⟨w.heap.size + 1 + 1, 0, none⟩), .pointer (some ⟨w.heap.size + 1 + 1 + 1, 0, none⟩)], .string x.1, .int .i64 x.2, g 50, g 51, g 52, g 53, g 54, g 55, g 56, g 57, g 58, g 59, g 60, g 61, g 62, g 63, g 64, g 65, g 66, g 67, g 68, g 69, g 70, g 71, g 72, g 73, g 74, g 75, g 76, g 77, g 78, g 79, g 80, g 81, g 82, g 83, g 84, g 85, g 86, g 87, g 88, g 89, g 90, g 91, g 92, g 93], defers := [] }) ?assign ?body ?done ?stop
      case hps => intro x; rfl
      case assign =>
        intro l x U K hK
        simp only [encP]
        gi_wp2
        exact hK
      case body =>
        rintro l' pre ⟨xk, xv⟩ U ⟨hI, hB⟩ hlt2
        have HU : ∀ {B : Nat} {t : TypeId} {v : Value}, Boxed w B t v → Boxed U B t v := fun h => boxBelow (boxBelow h hBw4 h.lt) hB h.lt
        have X9 := HU (boxBelow HY0.out HBW.out (by omega))
        have X14 := HU (boxBelow HY2.out HBW.out (by omega))
        have X15 := HU (boxBelow HY3.out HBW.out (by omega))
        have X16 := HU HXR.out
        have hUsz := hB.size
        have c9 := X9.cell
        have c14 := X14.cell
        have c15 := X15.cell
        have c16 := X16.cell
        have X10 := HU (boxBelow HY1.out HBW.out (by omega))
        have f10 := X10.frozen
        have c10 := X10.cell
        have c17 := hI.bx.cell
        have f17 := hI.bx.frozen
        have HI := Lib.hid hI
        have HBU := Lib.hid hB
        have HX10 := Lib.hid X10
        have HB4 := Lib.hid hB4
        have HBw4 := Lib.hid hBw4
        clear hI X9 X10 X14 X15 X16 HU t1 t2 t3 t4 hstops cr fr y1w y1f hB4 hBw4
        by_cases h1 : pre.length < q.length
        · have h1' : ¬ (q.length : Int) ≤ pre.length := by omega
          have hpl0 : (0 : Int) ≤ pre.length := by omega
          have hw1 : IntKind.i64.wrap ((pre.length : Int) + 1) = (pre.length : Int) + 1 := IntWalk.i64_in _ (by omega)
          obtain ⟨y, hy⟩ : ∃ y, q[pre.length]? = some y := get_some h1
          have hBU2 : Below w2.heap.size w2 U := HB4.out.trans (hB.mono (by omega))
          obtain ⟨b1, rfl, _, k1, _⟩ := HS.out.2.1.cell (i := pre.length) (x := .string y.1) (by unfold keysOf; rw [List.getElem?_map, hy]; rfl)
          obtain ⟨b2, rfl, _, k2, _⟩ := HS.out.2.2.cell (i := pre.length) (x := .int .i64 y.2) (by unfold valsOf; rw [List.getElem?_map, List.getElem?_map, hy]; rfl)
          have k1' := (hBU2.cell (World.block_lt_of_cell? _ _ k1)).trans k1
          have k2' := (hBU2.cell (World.block_lt_of_cell? _ _ k2)).trans k2
          obtain ⟨yk, yv⟩ := y
          dsimp only at k1' k2'
          clear hB hBU2 k1 k2
          by_cases hk : xk = yk
          · subst hk
            by_cases hv : xv = yv
            · subst hv
              have HPRE := Lib.hid (prefix_next HI.out.len hy)
              clear hy
              have c16u := boxUpd HI.out.bx (.int .i64 ((pre.length : Int) + 1)) c16 (by simp; omega)
              have c9u := boxUpd HI.out.bx (.int .i64 ((pre.length : Int) + 1)) c9 (by simp; omega)
              by_cases hr0 : r = 0
              · have hr0' : (r : Int) = 0 := by omega
                by_cases hst : (pre.length : Int) + 1 = stop
                · have HBXS := Lib.hid (HI.out.bx.set (.int .i64 stop))
                  gi_wp2
                  exact ⟨((KeepsOthers.setCell _ _ _)).from _, .inr ⟨rfl, rfl, by simp [hst], by rw [show (((pre ++ [(xk, xv)]).length : Nat) : Int) = stop from by simp [hst]]; exact HBXS.out, HBU.out.setCell (p := ⟨w.heap.size, 0, none⟩) (by simp) _⟩⟩
                · gi_wp2
                  exact ⟨((KeepsOthers.setCell _ _ _)).from _, (Below.refl _ _).setCell (p := ⟨w.heap.size, 0, none⟩) (by simp) _, ⟨HPRE.out, by simpa using HI.out.bx.set (.int .i64 ((pre.length : Int) + 1))⟩, HBU.out.setCell (p := ⟨w.heap.size, 0, none⟩) (by simp) _⟩
              · have hr0' : ¬ (r : Int) = 0 := by omega
                gi_wp2
                exact ⟨((KeepsOthers.setCell _ _ _)).from _, (Below.refl _ _).setCell (p := ⟨w.heap.size, 0, none⟩) (by simp) _, ⟨HPRE.out, by simpa using HI.out.bx.set (.int .i64 ((pre.length : Int) + 1))⟩, HBU.out.setCell (p := ⟨w.heap.size, 0, none⟩) (by simp) _⟩
            · have HN := Lib.hid (prefix_not hy (x := (xk, xv)) (fun e => hv (by injection e)))
              have hvb : (xv != yv) = true := by simp [hv]
              clear hy
              gi_wp2
              exact ⟨((KeepsOthers.setCell _ _ _)).from _, .inl ⟨rfl, HN.out⟩⟩
          · have HN := Lib.hid (prefix_not hy (x := (xk, xv)) (fun e => hk (by injection e)))
            clear hy
            have hkl : ¬ xk.toList = yk.toList := fun e => hk (by have h5 := ba_beq xk yk; rw [e] at h5; simpa using h5.symm)
            gi_wp2
            exact ⟨((KeepsOthers.setCell _ _ _)).from _, .inl ⟨rfl, HN.out⟩⟩
        · exact absurd hlt2 h1
      case done =>
        rintro D ys U hD hys ⟨hI, hB⟩ hK
        have hys : ys = q := hys
        rw [hys] at hI
        clear hys
        have HU : ∀ {B : Nat} {t : TypeId} {v : Value}, Boxed w B t v → Boxed U B t v := fun h => boxBelow (boxBelow h hBw4 h.lt) hB h.lt
        have X9 := HU (boxBelow HY0.out HBW.out (by omega))
        have X14 := HU (boxBelow HY2.out HBW.out (by omega))
        have X15 := HU (boxBelow HY3.out HBW.out (by omega))
        have X16 := HU HXR.out
        have hUsz := hB.size
        have c9 := X9.cell
        have c14 := X14.cell
        have c15 := X15.cell
        have c16 := X16.cell
        have c17 := hI.bx.cell
        have hw1 : IntKind.i64.wrap ((r : Int) + 1) = (r : Int) + 1 := IntWalk.i64_in _ (by omega)
        have HBU := Lib.hid hB
        have HBw4 := Lib.hid hBw4
        clear hI X9 X14 X15 X16 HU t1 t2 t3 t4 hstops cr fr y1w y1f hB4 hBw4 hB
        gi_wp2
        have hDU : D < U.heap.size := (Array.getElem?_eq_some_iff.1 hK).1
        refine ⟨2 - (r + 1), by omega, r + 1, U.heap.size, by omega, rfl, ?_, ?_, ?_, ?_, ?_⟩
        · unfold sl
          rfl
        · have := HBW.out.size; omega
        · exact ((HBW.out.trans (HBw4.out.mono (by omega))).trans (HBU.out.mono (by omega))).alloc (by omega) _
        · exact (by have h5 := Boxed.new U 3 (.int .i64 ((r : Int) + 1)); simpa using h5)
        · exact ⟨D, rfl, by omega, by simp; omega, (Below.heap_alloc U _ D hDU).trans hK, ((HMW.out.below HBU.out (Nat.le_refl _)).below ((Below.refl U.heap.size U).alloc (Nat.le_refl _) _) (by omega)).up (by omega)⟩
      case stop =>
        rintro D c pre U hD hpre hX hK
        rcases hX with ⟨_, hX⟩ | ⟨rfl, hr0, hst, hbx, hB⟩
        · exact absurd hpre hX
        · have HU : ∀ {B : Nat} {t : TypeId} {v : Value}, Boxed w B t v → Boxed U B t v := fun h => boxBelow (boxBelow h hBw4 h.lt) hB h.lt
          have X9 := HU (boxBelow HY0.out HBW.out (by omega))
          have X14 := HU (boxBelow HY2.out HBW.out (by omega))
          have X15 := HU (boxBelow HY3.out HBW.out (by omega))
          have X16 := HU HXR.out
          have hUsz := hB.size
          have c9 := X9.cell
          have c14 := X14.cell
          have c15 := X15.cell
          have c16 := X16.cell
          have c17 := hbx.cell
          have hw1 : IntKind.i64.wrap ((r : Int) + 1) = (r : Int) + 1 := IntWalk.i64_in _ (by omega)
          have HBU := Lib.hid hB
          have HBw4 := Lib.hid hBw4
          clear hbx X9 X14 X15 X16 HU t1 t2 t3 t4 hstops cr fr y1w y1f hB4 hBw4 hB hpre
          have hr0n : r = 0 := by omega
          by_cases hpq : (pre.length : Int) = q.length
          · have hpn : pre.length = q.length := by omega
            gi_wp2
            have hDU : D < U.heap.size := (Array.getElem?_eq_some_iff.1 hK).1
            refine ⟨2 - (r + 1), by omega, r + 1, U.heap.size, by omega, rfl, ?_, ?_, ?_, ?_, ?_⟩
            · unfold sl
              rfl
            · have := HBW.out.size; omega
            · exact ((HBW.out.trans (HBw4.out.mono (by omega))).trans (HBU.out.mono (by omega))).alloc (by omega) _
            · exact (by simpa [hr0n] using Boxed.new U 3 (.int .i64 1))
            · exact ⟨D, rfl, by omega, by simp; omega, (Below.heap_alloc U _ D hDU).trans hK, ((HMW.out.below HBU.out (Nat.le_refl _)).below ((Below.refl U.heap.size U).alloc (Nat.le_refl _) _) (by omega)).up (by omega)⟩
          · have hpn : ¬ pre.length = q.length := by omega
            gi_wp2
            have hDU : D < U.heap.size := (Array.getElem?_eq_some_iff.1 hK).1
            refine ⟨2 - (r + 1), by omega, r + 1, U.heap.size, by omega, rfl, ?_, ?_, ?_, ?_, ?_⟩
            · unfold sl
              rfl
            · have := HBW.out.size; omega
            · exact ((HBW.out.trans (HBw4.out.mono (by omega))).trans (HBU.out.mono (by omega))).alloc (by omega) _
            · exact (by simpa [hr0n] using Boxed.new U 3 (.int .i64 1))
            · exact ⟨D, rfl, by omega, by simp; omega, (Below.heap_alloc U _ D hDU).trans hK, ((HMW.out.below HBU.out (Nat.le_refl _)).below ((Below.refl U.heap.size U).alloc (Nat.le_refl _) _) (by omega)).up (by omega)⟩
    · have hlt' : ¬ (r : Int) < 2 := by omega
      obtain rfl : r = 2 := by omega
      have HW2 := Lib.hid (HW.out w)
      gi_wp2_with (refine ⟨trivial, ?_⟩; gi_at_call 12; refine (callsIn_wide.2 HW2.out).mono ?_; clear HW2; rintro e w9 ⟨rfl, h9⟩; have H9 := Lib.hid h9; clear h9; have c9 := (boxBelow (boxBelow HY1.out HBW.out (by omega)) H9.out (by have := HBW.out.size; omega)).frozen; have d9 := (boxBelow (boxBelow HY1.out HBW.out (by omega)) H9.out (by have := HBW.out.size; omega)).cell)
      have b9 := boxBelow (boxBelow HY1.out HBW.out (by omega)) H9.out (by have := HBW.out.size; omega)
      have s9 := H9.out.size
      have s8 := HBW.out.size
      have m9 := (HM.out.below H9.out (Nat.le_refl _)).set b9 (.bool true)
      have e9 : Below W.heap.size W (w9.setCell ⟨W.heap.size + 1, 0, none⟩ (.bool true)) := ((((HBB.out.trans (HBW1.out.mono (by omega))).trans (HB2.out.mono (by omega))).trans (HBW.out.mono (by omega))).trans (H9.out.mono (by omega))).setCell (p := ⟨W.heap.size + 1, 0, none⟩) (by simp) _
      refine leaves_marks (n₀ := u0.heap.size) (t := 4) (v := .bool true) (B := W.heap.size + 1) (by simp; omega) m9 (b9.set _) ?_
      intro w' hb' hx'
      refine ⟨.bool true, ?_, HQ.out w' (e9.trans (hb'.mono (by omega)))⟩
      have r1 := hx'.cell
      simp [results, Try.f3, go_sem, r1]
end Go.Proofs.Ytjoopjmcnkiieaa

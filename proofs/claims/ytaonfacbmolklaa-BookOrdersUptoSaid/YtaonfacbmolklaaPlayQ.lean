/- The law's play: the book and the deeds in one world; its plain form. Conditions: none. -/
import Derived.Test.YtaonfacbmolklaaPlayM
namespace Go.Proofs.Ytaonfacbmolklaa
open Go.RowKit
set_option linter.unusedSimpArgs false
set_option linter.unusedVariables false

structure PS where
  bk : Bk
  act : Int → Option D
  done : List D
def addR (act : Int → Option D) (who : Int) (l : List ByteArray) : Int → Option D := match act who with
  | some d => ups act who (some { d with reads := d.reads ++ l })
  | none => act
def addT (act : Int → Option D) (who : Int) (l : List ByteArray) : Int → Option D := match act who with
  | some d => ups act who (some { d with touches := d.touches ++ l })
  | none => act
def addD (act : Int → Option D) (done : List D) (who en : Int) : List D := match act who with
  | some d => done ++ [{ d with end_ := en }]
  | none => done
/-- One act of play. -/
def stepP (s : PS) (o : Op) : PS :=
  if o.kind = 0 then ⟨(openB s.bk o.who s.bk.last).2, if (openB s.bk o.who s.bk.last).1 = 0 then ups s.act o.who (some ⟨s.bk.last, 0, [], []⟩) else s.act, s.done⟩
  else if o.kind = 1 then ⟨(readB s.bk o.who o.l).2, if (readB s.bk o.who o.l).1 = 0 then addR s.act o.who o.l else s.act, s.done⟩
  else if o.kind = 2 then ⟨(touchB s.bk o.who o.l).2, if (touchB s.bk o.who o.l).1 = 0 then addT s.act o.who o.l else s.act, s.done⟩
  else if o.kind = 3 then ⟨(closeB s.bk o.who (s.bk.last + 1)).2, ups s.act o.who none, if (closeB s.bk o.who (s.bk.last + 1)).1 = 0 then addD s.act s.done o.who (s.bk.last + 1) else s.done⟩
  else if o.kind = 4 then ⟨(dropB s.bk o.who).2, ups s.act o.who none, s.done⟩
  else s
/-- The book and the deeds. -/
def PQ (u0 : World) (B P M : Nat) (S X : Nat → Prop) (bk : Bk) (act : Int → Option D) (ps : Int → Nat) (dv : Value) (done : List D) (n : Nat) (u : World) : Prop :=
  ∃ S1 N vs tag g zs, BookAt u B P bk S1 ∧ PM u u0.heap.size M N act ps vs tag g dv zs n ∧ zs.map (fun z => z.1) = done ∧ (∀ k, S1 k → ¬ N k ∧ B ≤ k ∧ k < u.heap.size ∧ ¬ X k ∧ (S k ∨ u0.heap.size ≤ k)) ∧ (∀ k, N k → ¬ X k) ∧ (∀ k, X k → k < u.heap.size) ∧ KeptS S u0 u ∧ (∀ k, S k → B ≤ k) ∧ B ≤ u0.heap.size
def PQO (u0 : World) (B P M : Nat) (S : Nat → Prop) (ob : Nat) (cs : List Value) (bk : Bk) (act : Int → Option D) (ps : Int → Nat) (dv : Value) (done : List D) (n : Nat) (u : World) : Prop :=
  PQ u0 B P M S (fun k => k = ob) bk act ps dv done n u ∧ Block u ob cs 31 ∧ u0.heap.size ≤ ob
section
variable {u0 u w' : World} {B P M n ob : Nat} {S X : Nat → Prop} {bk : Bk} {act : Int → Option D} {ps : Int → Nat} {dv : Value} {done : List D} {cs : List Value}
theorem PQ.below (h : PQ u0 B P M S X bk act ps dv done n u) (hb : Below u.heap.size u w') : PQ u0 B P M S X bk act ps dv done n w' := by
  obtain ⟨S1, N, vs, tag, g, zs, h1, h2, h3, h4, h5, h6, h7, h8, h9⟩ := h
  have hz := hb.size
  exact ⟨S1, N, vs, tag, g, zs, h1.below hb, h2.same hz (fun k hk => hb.block k (h2.nb k hk).2), h3, fun k hk => by obtain ⟨a, b, c, d, e⟩ := h4 k hk; exact ⟨a, b, by omega, d, e⟩, h5, fun k hk => by have := h6 k hk; omega, h7.trans (KeptS.of_below (S := S) hb) (fun x hx => .inl hx), h8, h9⟩
theorem PQO.below (h : PQO u0 B P M S ob cs bk act ps dv done n u) (hb : Below u.heap.size u w') : PQO u0 B P M S ob cs bk act ps dv done n w' :=
  ⟨h.1.below hb, h.2.1.below hb h.2.1.lt, h.2.2⟩
theorem PQO.drew (h : PQO u0 B P M S ob cs bk act ps dv done n u) : PQO u0 B P M S ob cs bk act ps dv done n u.drew := h.below (Below.refl _ _).drew
theorem PQ.size (h : PQ u0 B P M S X bk act ps dv done n u) : u0.heap.size ≤ u.heap.size := by
  obtain ⟨S1, N, vs, tag, g, zs, h1, h2, h3, h4, h5, h6, h7, h8, h9⟩ := h
  exact h7.size
theorem PQ.own (cs : List Value) (h : PQ u0 B P M S (fun _ => False) bk act ps dv done n u) : PQO u0 B P M S u.heap.size cs bk act ps dv done n (u.alloc (.cells cs.toArray 31)) := by
  have hb : Below u.heap.size u (u.alloc (.cells cs.toArray 31)) := (Below.refl _ _).alloc (Nat.le_refl _) _
  have hs : (u.alloc (.cells cs.toArray 31)).heap.size = u.heap.size + 1 := by simp
  have hz := h.size
  obtain ⟨S1, N, vs, tag, g, zs, h1, h2, h3, h4, h5, h6, h7, h8, h9⟩ := h
  exact ⟨⟨S1, N, vs, tag, g, zs, h1.below hb, h2.same (by omega) (fun k hk => hb.block k (h2.nb k hk).2), h3, fun k hk => by obtain ⟨a, b, c, d, e⟩ := h4 k hk; exact ⟨a, b, by omega, by omega, e⟩, fun k hk => by have := (h2.nb k hk).2; omega, fun k hk => by omega, h7.trans (KeptS.of_below (S := S) hb) (fun x hx => .inl hx), h8, h9⟩, Block.new _ _ _, hz⟩
theorem PQO.off (h : PQO u0 B P M S ob cs bk act ps dv done n u) : PQ u0 B P M S (fun _ => False) bk act ps dv done n u := by
  obtain ⟨⟨S1, N, vs, tag, g, zs, h1, h2, h3, h4, h5, h6, h7, h8, h9⟩, _⟩ := h
  exact ⟨S1, N, vs, tag, g, zs, h1, h2, h3, fun k hk => by obtain ⟨a, b, c, d, e⟩ := h4 k hk; exact ⟨a, b, c, fun h => h, e⟩, fun k _ h => h, fun k h => h.elim, h7, h8, h9⟩
/-- An act on the book. -/
theorem PQO.book {bk' : Bk} {f : FuncId} {args : Array Value} {v : Value} (h : PQO u0 B P M S ob cs bk act ps dv done n u)
    (hc : ∀ S1 : Nat → Prop, BookAt u B P bk S1 → (∀ k, S1 k → B ≤ k ∧ (S k ∨ u0.heap.size ≤ k)) → Calls Try.prog f args u fun e w' => e = .returned v ∧ Acted u B P bk' S1 w') :
    Calls Try.prog f args u fun e w' => e = .returned v ∧ PQO u0 B P M S ob cs bk' act ps dv done n w' := by
  obtain ⟨⟨S1, N, vs, tag, g, zs, h1, h2, h3, h4, h5, h6, h7, h8, h9⟩, h10, h11⟩ := h
  refine (hc S1 h1 (fun k hk => ⟨(h4 k hk).2.1, (h4 k hk).2.2.2.2⟩)).mono ?_
  rintro e w' ⟨rfl, ha, hk⟩
  have hz := hk.size
  have hz0 := h7.size
  have hob := h10.lt
  refine ⟨rfl, ⟨grow S1 u w', N, vs, tag, g, zs, ha, h2.same hz (fun k hn => hk.block k (h2.nb k hn).2 (fun hs => (h4 k hs).1 hn)), h3, fun k hs => ?_, h5, fun k hx => by omega, h7.trans hk (fun x hx => (h4 x hx).2.2.2.2), h8, h9⟩, h10.of_heap (hk.block ob hob (fun hs => (h4 ob hs).2.2.2.1 rfl)), h11⟩
  rcases hs with hs | hs
  · obtain ⟨a, b, c, d, e⟩ := h4 k hs
    exact ⟨a, b, by omega, d, e⟩
  · exact ⟨fun hn => by have := (h2.nb k hn).2; omega, by omega, by omega, by omega, .inr (by omega)⟩
/-- The deeds' memory turns. -/
theorem turn_ {S1 N N' : Nat → Prop} {vs' : Int → Value × Value} {tag' : Nat → Nat × Nat} {g' : Int → Option Value} {zs' : List ZD} {act' : Int → Option D} {ps' : Int → Nat} {dv' : Value} {done' : List D} {n' : Nat}
    (h1 : BookAt u B P bk S1) (hn : ∀ k, N k → u0.heap.size ≤ k ∧ k < u.heap.size) (h4 : ∀ k, S1 k → ¬ N k ∧ B ≤ k ∧ k < u.heap.size ∧ ¬ k = ob ∧ (S k ∨ u0.heap.size ≤ k)) (h5 : ∀ k, N k → ¬ k = ob) (h7 : KeptS S u0 u) (h8 : ∀ k, S k → B ≤ k) (h9 : B ≤ u0.heap.size) (h10 : Block u ob cs 31) (h11 : u0.heap.size ≤ ob)
    (hk : KeptS N u w') (hN : ∀ k, N' k → N k ∨ u.heap.size ≤ k) (hp : PM w' u0.heap.size M N' act' ps' vs' tag' g' dv' zs' n') (hd : zs'.map (fun z => z.1) = done') : PQO u0 B P M S ob cs bk act' ps' dv' done' n' w' := by
  have hz := hk.size
  have hob := h10.lt
  refine ⟨⟨S1, N', vs', tag', g', zs', h1.kept hk (fun k hs => (h4 k hs).1), hp, hd, fun k hs => ?_, fun k hn' e => ?_, fun k e => by omega, h7.trans hk (fun x hx => .inr (hn x hx).1), h8, h9⟩, h10.of_heap (hk.block ob hob (fun hn => h5 ob hn rfl)), h11⟩
  · obtain ⟨a, b, c, d, e⟩ := h4 k hs
    refine ⟨fun hn' => ?_, b, by omega, d, e⟩
    rcases hN k hn' with h | h
    · exact a h
    · omega
  · rcases hN k hn' with h | h
    · exact h5 k h e
    · omega
theorem PQO.look (h : PQO u0 B P M S ob cs bk act ps dv done n u) : ∃ g, MapIs u KQ M n g ∧ ∀ who, (g who).getD (.pointer none) = ptrO ps act who := by
  obtain ⟨⟨S1, N, vs, tag, g, zs, h1, h2, _⟩, _⟩ := h
  exact ⟨g, h2.map, h2.look⟩
theorem PQO.nil (h : PQO u0 B P M S ob cs bk act ps dv done n u) : ∃ g, MapIs u KQ M n g ∧ ∀ (who : Int) (w' : World), MapIs w' KQ M (n + 1) (fun y => if y = who then some (.pointer none) else g y) → u.grownBy w' (some M) → PQO u0 B P M S ob cs bk (ups act who none) ps dv done (n + 1) w' := by
  obtain ⟨⟨S1, N, vs, tag, g, zs, h1, h2, h3, h4, h5, h6, h7, h8, h9⟩, h10, h11⟩ := h
  exact ⟨g, h2.map, fun who w' hm hg => turn_ h1 h2.nb h4 h5 h7 h8 h9 h10 h11 ((KeptS.refl N u).grown hg (fun k e => by injection e with e; subst e; exact .inl h2.nM)) (fun k hn => .inl hn) (h2.nil who hm hg) h3⟩
theorem PQO.opened (at_ : Int) (h : PQO u0 B P M S ob cs bk act ps dv done n u) : ∃ g, MapIs (u.alloc (.cells (cellsD ⟨at_, 0, [], []⟩ (.slice none 0 0) (.slice none 0 0)).toArray 47)) KQ M n g ∧ ∀ (who : Int) (w' : World), MapIs w' KQ M (n + 1) (fun y => if y = who then some (.pointer (some ⟨u.heap.size, 0, none⟩)) else g y) → (u.alloc (.cells (cellsD ⟨at_, 0, [], []⟩ (.slice none 0 0) (.slice none 0 0)).toArray 47)).grownBy w' (some M) → PQO u0 B P M S ob cs bk (ups act who (some ⟨at_, 0, [], []⟩)) (ups ps who u.heap.size) dv done (n + 1) w' := by
  have hz := h.1.size
  obtain ⟨⟨S1, N, vs, tag, g, zs, h1, h2, h3, h4, h5, h6, h7, h8, h9⟩, h10, h11⟩ := h
  have hb : Below u.heap.size u (u.alloc (.cells (cellsD ⟨at_, 0, [], []⟩ (.slice none 0 0) (.slice none 0 0)).toArray 47)) := (Below.refl _ _).alloc (Nat.le_refl _) _
  exact ⟨g, h2.map.of_heap (hb.block M (h2.nb M h2.nM).2), fun who w' hm hg => turn_ h1 h2.nb h4 h5 h7 h8 h9 h10 h11 ((KeptS.of_below (S := N) hb).grown hg (fun k e => by injection e with e; subst e; exact .inl h2.nM)) (fun k hn => by
    rcases hn with hn | rfl
    · exact .inl hn
    · exact .inr (Nat.le_refl _)) (h2.opened who at_ hz hm hg) h3⟩
theorem PQO.reads {who : Int} {d : D} (hd : act who = some d) (h : PQO u0 B P M S ob cs bk act ps dv done n u) : ∃ a1 c1, ps who < u.heap.size ∧ u.cell? ⟨ps who, 2, none⟩ = some (.slice a1 d.reads.length c1) ∧ u.frozen? ⟨ps who, 2, none⟩ = false ∧ u.ownsRow u0.heap.size 9 1 (.slice a1 d.reads.length c1) d.reads.length (d.reads.map Value.string) ∧ (Value.slice a1 d.reads.length c1).ownBlock ≠ some (ps who) ∧
    ∀ (a : Option Addr) (m c : Nat) (l : List ByteArray) (w1 : World), m = (d.reads ++ l).length → w1.ownsRow u0.heap.size 9 1 (.slice a m c) m ((d.reads ++ l).map Value.string) → u.grownBy w1 (Value.slice a1 d.reads.length c1).ownBlock → ((Value.slice a m c).ownBlock = (Value.slice a1 d.reads.length c1).ownBlock ∨ (Value.slice a m c).ownBlock = some u.heap.size) → PQO u0 B P M S ob cs bk (addR act who l) ps dv done n (w1.setCell ⟨ps who, 2, none⟩ (.slice a m c)) := by
  have hz := h.1.size
  obtain ⟨⟨S1, N, vs, tag, g, zs, h1, h2, h3, h4, h5, h6, h7, h8, h9⟩, h10, h11⟩ := h
  have hE := h2.ent who d hd
  obtain ⟨a1, c1, hv⟩ := own_form hE.o1
  have hc := hE.blk.cell (i := 2) (v := (vs who).1) rfl
  have ho1 := hE.o1
  have ht1 := hE.t1
  rw [hv] at hc ho1 ht1
  refine ⟨a1, c1, hE.blk.lt, hc, hE.blk.free 2, ho1, fun e => (by have := (ht1 _ e).1; rw [hE.tp] at this; injection this with _ h; cases h), fun a m c l w1 hm hown hg hat => ?_⟩
  rw [← hv] at hg hat
  have hp := h2.grewreads hd hz hm hown hg hat
  have ha : addR act who l = ups act who (some { d with reads := d.reads ++ l }) := by unfold addR; rw [hd]
  rw [ha]
  exact turn_ h1 h2.nb h4 h5 h7 h8 h9 h10 h11 (((KeptS.refl N u).grown hg (fun k e => .inl (hE.t1 k e).2)).setCell (.inl hE.np) _) (fun k hn => by
    rcases hn with hn | hn
    · exact .inl hn
    · rcases hat with e | e
      · rw [e] at hn; exact .inl (hE.t1 k hn).2
      · rw [e] at hn; injection hn with hn; exact .inr (by omega)) hp h3
theorem PQO.touches {who : Int} {d : D} (hd : act who = some d) (h : PQO u0 B P M S ob cs bk act ps dv done n u) : ∃ a1 c1, ps who < u.heap.size ∧ u.cell? ⟨ps who, 3, none⟩ = some (.slice a1 d.touches.length c1) ∧ u.frozen? ⟨ps who, 3, none⟩ = false ∧ u.ownsRow u0.heap.size 9 1 (.slice a1 d.touches.length c1) d.touches.length (d.touches.map Value.string) ∧ (Value.slice a1 d.touches.length c1).ownBlock ≠ some (ps who) ∧
    ∀ (a : Option Addr) (m c : Nat) (l : List ByteArray) (w1 : World), m = (d.touches ++ l).length → w1.ownsRow u0.heap.size 9 1 (.slice a m c) m ((d.touches ++ l).map Value.string) → u.grownBy w1 (Value.slice a1 d.touches.length c1).ownBlock → ((Value.slice a m c).ownBlock = (Value.slice a1 d.touches.length c1).ownBlock ∨ (Value.slice a m c).ownBlock = some u.heap.size) → PQO u0 B P M S ob cs bk (addT act who l) ps dv done n (w1.setCell ⟨ps who, 3, none⟩ (.slice a m c)) := by
  have hz := h.1.size
  obtain ⟨⟨S1, N, vs, tag, g, zs, h1, h2, h3, h4, h5, h6, h7, h8, h9⟩, h10, h11⟩ := h
  have hE := h2.ent who d hd
  obtain ⟨a1, c1, hv⟩ := own_form hE.o2
  have hc := hE.blk.cell (i := 3) (v := (vs who).2) rfl
  have ho1 := hE.o2
  have ht1 := hE.t2
  rw [hv] at hc ho1 ht1
  refine ⟨a1, c1, hE.blk.lt, hc, hE.blk.free 3, ho1, fun e => (by have := (ht1 _ e).1; rw [hE.tp] at this; injection this with _ h; cases h), fun a m c l w1 hm hown hg hat => ?_⟩
  rw [← hv] at hg hat
  have hp := h2.grewtouches hd hz hm hown hg hat
  have ha : addT act who l = ups act who (some { d with touches := d.touches ++ l }) := by unfold addT; rw [hd]
  rw [ha]
  exact turn_ h1 h2.nb h4 h5 h7 h8 h9 h10 h11 (((KeptS.refl N u).grown hg (fun k e => .inl (hE.t2 k e).2)).setCell (.inl hE.np) _) (fun k hn => by
    rcases hn with hn | hn
    · exact .inl hn
    · rcases hat with e | e
      · rw [e] at hn; exact .inl (hE.t2 k hn).2
      · rw [e] at hn; injection hn with hn; exact .inr (by omega)) hp h3
theorem PQO.closed {who : Int} {d : D} (en : Int) (hd : act who = some d) (h : PQO u0 B P M S ob cs bk act ps dv done n u) : ∃ (v1 v2 : Value) (cl : List Value) (g : Int → Option Value), ps who < u.heap.size ∧ Block u (ps who) [.int .i64 d.at_, .int .i64 d.end_, v1, v2] 47 ∧ (∃ a n c, v1 = .slice a n c) ∧ (∃ a n c, v2 = .slice a n c) ∧ u.ownsRow u0.heap.size 47 4 dv done.length cl ∧ dv.ownBlock ≠ some (ps who) ∧
    ∀ (a : Option Addr) (c : Nat) (w3 : World) (X : Obj), w3.ownsRow u0.heap.size 47 4 (.slice a (done.length + 1) c) (done.length + 1) (cl ++ [.int .i64 d.at_, .int .i64 en, v1, v2]) → ((u.setCell ⟨ps who, 1, none⟩ (.int .i64 en)).alloc X).grownBy w3 dv.ownBlock → ((Value.slice a (done.length + 1) c).ownBlock = dv.ownBlock ∨ (Value.slice a (done.length + 1) c).ownBlock = some (u.heap.size + 1)) →
      MapIs w3 KQ M n g ∧ Block w3 ob cs 31 ∧ ∀ w', MapIs w' KQ M (n + 1) (fun y => if y = who then some (.pointer none) else g y) → w3.grownBy w' (some M) → PQO u0 B P M S ob cs bk (ups act who none) ps (.slice a (done.length + 1) c) (addD act done who en) (n + 1) w' := by
  have hz := h.1.size
  obtain ⟨⟨S1, N, vs, tag, g, zs, h1, h2, h3, h4, h5, h6, h7, h8, h9⟩, h10, h11⟩ := h
  have hE := h2.ent who d hd
  have hl : zs.length = done.length := by rw [← h3, List.length_map]
  have hrow := h2.row
  rw [hl] at hrow
  obtain ⟨a1, c1, hv1⟩ := own_form hE.o1
  obtain ⟨a2, c2, hv2⟩ := own_form hE.o2
  refine ⟨(vs who).1, (vs who).2, zs.flatMap cellsZD, g, hE.blk.lt, hE.blk, ⟨_, _, _, hv1⟩, ⟨_, _, _, hv2⟩, hrow, fun e => ?_, fun a c w3 X hown hg hat => ?_⟩
  · have := (h2.rt _ e).1
    rw [hE.tp] at this; injection this with _ h; cases h
  · obtain ⟨hm3, hfin⟩ := h2.closed (en := en) hd hz (by rw [hl]) hown hg hat
    have hKN : KeptS N u w3 := (((KeptS.refl N u).setCell (p := ⟨ps who, 1, none⟩) (.inl hE.np) (.int .i64 en)).trans (KeptS.of_below (S := N) ((Below.refl _ _).alloc (Nat.le_refl _) X)) (fun x hx => .inl hx)).grown hg (fun k e => .inl (h2.rt k e).2)
    refine ⟨hm3, h10.of_heap (hKN.block ob h10.lt (fun hn => h5 ob hn rfl)), fun w' hm hgm => ?_⟩
    have hp := hfin w' hm hgm
    have ha : addD act done who en = done ++ [{ d with end_ := en }] := by unfold addD; rw [hd]
    rw [ha]
    exact turn_ h1 h2.nb h4 h5 h7 h8 h9 h10 h11 (hKN.grown hgm (fun k e => by injection e with e; subst e; exact .inl h2.nM)) (fun k hn => by
      rcases hn with hn | hn
      · exact .inl hn
      · rcases hat with e | e
        · rw [e] at hn; exact .inl (h2.rt k hn).2
        · rw [e] at hn; injection hn with hn; exact .inr (by omega)) hp (by rw [List.map_append, h3]; rfl)
end
end Go.Proofs.Ytaonfacbmolklaa

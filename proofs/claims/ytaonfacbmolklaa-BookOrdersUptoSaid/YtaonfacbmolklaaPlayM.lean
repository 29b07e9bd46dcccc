/- The memory of the law's play: the map of the open deeds, the deeds, the row of those that were closed. Conditions: none. -/
import Derived.Test.YtaonfacbmolklaaTwo
import Derived.Test.YtaonfacbmolklaaMap
namespace Go.Proofs.Ytaonfacbmolklaa
open Go.RowKit
set_option linter.unusedSimpArgs false
set_option linter.unusedVariables false

/-- What a transaction did, as the law keeps it. -/
structure D where
  at_ : Int
  end_ : Int
  reads : List ByteArray
  touches : List ByteArray
abbrev ZD := D × Value × Value
def cellsD (d : D) (v1 v2 : Value) : List Value := [.int .i64 d.at_, .int .i64 d.end_, v1, v2]
def cellsZD (z : ZD) : List Value := cellsD z.1 z.2.1 z.2.2
def KQ : KeyKind Try.prog 2 Int := intKind Try.underlying2
def ups {α : Type} (f : Int → α) (who : Int) (x : α) (y : Int) : α := if y = who then x else f y
theorem ups_same {α : Type} (f : Int → α) (who : Int) (x : α) : ups f who x who = x := if_pos rfl
theorem ups_other {α : Type} (f : Int → α) {who y : Int} (x : α) (h : y ≠ who) : ups f who x y = f y := if_neg h
/-- A deed in memory. -/
structure IsD (u : World) (L : Nat) (N : Nat → Prop) (tag : Nat → Nat × Nat) (p : Nat) (vs : Value × Value) (d : D) : Prop where
  blk : Block u p (cellsD d vs.1 vs.2) 47
  np : N p
  tp : tag p = (p, 0)
  o1 : u.ownsRow L 9 1 vs.1 d.reads.length (d.reads.map Value.string)
  t1 : ∀ k, vs.1.ownBlock = some k → tag k = (p, 1) ∧ N k
  o2 : u.ownsRow L 9 1 vs.2 d.touches.length (d.touches.map Value.string)
  t2 : ∀ k, vs.2.ownBlock = some k → tag k = (p, 2) ∧ N k
def Live (M : Nat) (act : Int → Option D) (ps : Int → Nat) (tag : Nat → Nat × Nat) (k : Nat) : Prop := (tag k).1 = M ∨ ∃ who d, act who = some d ∧ (tag k).1 = ps who
def ptrO (ps : Int → Nat) (act : Int → Option D) (who : Int) : Value := match act who with
  | none => .pointer none
  | some _ => .pointer (some ⟨ps who, 0, none⟩)
structure PM (u : World) (L M : Nat) (N : Nat → Prop) (act : Int → Option D) (ps : Int → Nat) (vs : Int → Value × Value) (tag : Nat → Nat × Nat) (g : Int → Option Value) (dv : Value) (zs : List ZD) (n : Nat) : Prop where
  map : MapIs u KQ M n g
  look : ∀ who, (g who).getD (.pointer none) = ptrO ps act who
  nM : N M
  tM : tag M = (M, 0)
  tl : ∀ k, (tag k).1 ≤ k
  nb : ∀ k, N k → L ≤ k ∧ k < u.heap.size
  ent : ∀ who d, act who = some d → IsD u L N tag (ps who) (vs who) d
  pM : ∀ who d, act who = some d → ps who ≠ M
  inj : ∀ who d who' d', act who = some d → act who' = some d' → ps who = ps who' → who = who'
  row : u.ownsRow L 47 4 dv zs.length (zs.flatMap cellsZD)
  rt : ∀ k, dv.ownBlock = some k → tag k = (M, 1) ∧ N k
  old : ∀ z ∈ zs, RowIn u (Live M act ps tag) N z.2.1 z.1.reads ∧ RowIn u (Live M act ps tag) N z.2.2 z.1.touches
theorem IsD.same {u w' : World} {L : Nat} {N N' : Nat → Prop} {tag tag' : Nat → Nat × Nat} {p : Nat} {vs : Value × Value} {d : D} (h : IsD u L N tag p vs d)
    (hk : ∀ k, N k → (tag k).1 = p → w'.heap[k]? = u.heap[k]? ∧ N' k ∧ tag' k = tag k) : IsD w' L N' tag' p vs d := by
  have hp := hk p h.np (by rw [h.tp])
  have h1 : ∀ k, vs.1.ownBlock = some k → w'.heap[k]? = u.heap[k]? ∧ N' k ∧ tag' k = tag k := fun k e => hk k (h.t1 k e).2 (by rw [(h.t1 k e).1])
  have h2 : ∀ k, vs.2.ownBlock = some k → w'.heap[k]? = u.heap[k]? ∧ N' k ∧ tag' k = tag k := fun k e => hk k (h.t2 k e).2 (by rw [(h.t2 k e).1])
  exact ⟨h.blk.of_heap hp.1, hp.2.1, hp.2.2.trans h.tp, own_of_heap h.o1 fun k e => (h1 k e).1, fun k e => ⟨(h1 k e).2.2.trans (h.t1 k e).1, (h1 k e).2.1⟩, own_of_heap h.o2 fun k e => (h2 k e).1, fun k e => ⟨(h2 k e).2.2.trans (h.t2 k e).1, (h2 k e).2.1⟩⟩
/-- The row of a deed, as one that is no more written. -/
theorem RowIn.of_own {u : World} {L : Nat} {N S : Nat → Prop} {v : Value} {ks : List ByteArray} (h : u.ownsRow L 9 1 v ks.length (ks.map Value.string)) (hs : ∀ k, v.ownBlock = some k → S k ∧ ¬ N k) : RowIn u N S v ks := by
  obtain ⟨a, c, rfl⟩ := own_form h
  refine ⟨a, c, rfl, ?_⟩
  rcases own_cells_of h with h0 | ⟨b, off, rfl, h2, h3⟩
  · exact .inl (List.map_eq_nil_iff.1 h0)
  · obtain ⟨h4, h5⟩ := hs b rfl
    exact .inr ⟨b, off, rfl, h4, h5, h2, fun i x hx => h3 i _ (by rw [List.getElem?_map, hx]; rfl)⟩
section
variable {u w' : World} {L M n : Nat} {N N' : Nat → Prop} {act act' : Int → Option D} {ps ps' : Int → Nat} {vs : Int → Value × Value} {tag tag' : Nat → Nat × Nat} {g : Int → Option Value} {dv : Value} {zs : List ZD}
theorem PM.move (h : PM u L M N act ps vs tag g dv zs n) (p0 : Nat)
    (hk : ∀ k, N k → (tag k).1 ≠ M → (tag k).1 ≠ p0 → w'.heap[k]? = u.heap[k]?) (ht : ∀ k, k < u.heap.size → tag' k = tag k) (hN : ∀ k, N k → N' k)
    (hp : ∀ k, k < u.heap.size → (tag k).1 = p0 → Live M act ps tag k) (hl : ∀ k, k < u.heap.size → Live M act' ps' tag' k → Live M act ps tag k) :
    (∀ who d, act who = some d → ps who ≠ p0 → IsD w' L N' tag' (ps who) (vs who) d) ∧ (∀ z ∈ zs, RowIn w' (Live M act' ps' tag') N' z.2.1 z.1.reads ∧ RowIn w' (Live M act' ps' tag') N' z.2.2 z.1.touches) := by
  refine ⟨fun who d hd hne => (h.ent who d hd).same fun k hn e => ?_, fun z hz => ?_⟩
  · exact ⟨hk k hn (by rw [e]; exact h.pM who d hd) (by rw [e]; exact hne), hN k hn, ht k (h.nb k hn).2⟩
  · have hs : ∀ k, N k → ¬ Live M act ps tag k → k < u.heap.size → w'.heap[k]? = u.heap[k]? ∧ N' k ∧ ¬ Live M act' ps' tag' k := fun k h1 h2 h3 =>
      ⟨hk k h1 (fun e => h2 (.inl e)) (fun e => h2 (hp k h3 e)), hN k h1, fun e => h2 (hl k h3 e)⟩
    exact ⟨(h.old z hz).1.same hs, (h.old z hz).2.same hs⟩
/-- Nothing of it has turned. -/
theorem PM.same (h : PM u L M N act ps vs tag g dv zs n) (hz : u.heap.size ≤ w'.heap.size) (hk : ∀ k, N k → w'.heap[k]? = u.heap[k]?) : PM w' L M N act ps vs tag g dv zs n := by
  refine ⟨h.map.of_heap (hk M h.nM), h.look, h.nM, h.tM, h.tl, fun k hn => ⟨(h.nb k hn).1, by have := (h.nb k hn).2; omega⟩, fun who d hd => (h.ent who d hd).same fun k hn _ => ⟨hk k hn, hn, rfl⟩, h.pM, h.inj, own_of_heap h.row fun k e => hk k (h.rt k e).2, h.rt, fun z hz => ?_⟩
  have hs : ∀ k, N k → ¬ Live M act ps tag k → k < u.heap.size → w'.heap[k]? = u.heap[k]? ∧ N k ∧ ¬ Live M act ps tag k := fun k h1 h2 h3 => ⟨hk k h1, h1, h2⟩
  exact ⟨(h.old z hz).1.same hs, (h.old z hz).2.same hs⟩
/-- The map's key is let go. -/
theorem PM.nil (h : PM u L M N act ps vs tag g dv zs n) (who : Int) (hm : MapIs w' KQ M (n + 1) (fun y => if y = who then some (.pointer none) else g y)) (hg : u.grownBy w' (some M)) :
    PM w' L M N (ups act who none) ps vs tag (fun y => if y = who then some (.pointer none) else g y) dv zs (n + 1) := by
  have hz := hg.size
  have hsub : ∀ y d, ups act who none y = some d → y ≠ who ∧ act y = some d := fun y d e => by
    unfold ups at e
    split at e
    · cases e
    · rename_i h; exact ⟨h, e⟩
  have hk : ∀ k, N k → k ≠ M → w'.heap[k]? = u.heap[k]? := fun k hn hne => hg.block k (h.nb k hn).2 (fun e => hne (by injection e))
  have hkt : ∀ k, (tag k).2 ≠ 0 ∨ (tag k).1 ≠ M → k ≠ M := fun k hh e => by rw [e, h.tM] at hh; rcases hh with hh | hh <;> exact hh rfl
  have hmv := h.move (w' := w') (N' := N) (act' := ups act who none) (ps' := ps) (tag' := tag) M (fun k hn h1 _ => hk k hn (hkt k (.inr h1))) (fun k _ => rfl) (fun k hn => hn) (fun k _ e => .inl e) (fun k _ hl => by
    rcases hl with hl | ⟨y, d, h1, h2⟩
    · exact .inl hl
    · exact .inr ⟨y, d, (hsub y d h1).2, h2⟩)
  refine ⟨hm, fun y => ?_, h.nM, h.tM, h.tl, fun k hn => ⟨(h.nb k hn).1, by have := (h.nb k hn).2; omega⟩, fun y d hd => hmv.1 y d (hsub y d hd).2 (h.pM y d (hsub y d hd).2), fun y d hd => h.pM y d (hsub y d hd).2, fun y d y' d' h1 h2 => h.inj y d y' d' (hsub y d h1).2 (hsub y' d' h2).2, own_of_heap h.row fun k e => hk k (h.rt k e).2 (hkt k (.inl (by rw [(h.rt k e).1]; exact Nat.one_ne_zero))), h.rt, hmv.2⟩
  unfold ptrO ups
  by_cases hy : y = who
  · simp [hy]
  · simp only [if_neg hy]
    exact h.look y
/-- A new deed. -/
theorem PM.opened (h : PM u L M N act ps vs tag g dv zs n) (who at_ : Int) (hL : L ≤ u.heap.size) (hm : MapIs w' KQ M (n + 1) (fun y => if y = who then some (.pointer (some ⟨u.heap.size, 0, none⟩)) else g y))
    (hg : (u.alloc (.cells (cellsD ⟨at_, 0, [], []⟩ (.slice none 0 0) (.slice none 0 0)).toArray 47)).grownBy w' (some M)) :
    PM w' L M (fun k => N k ∨ k = u.heap.size) (ups act who (some ⟨at_, 0, [], []⟩)) (ups ps who u.heap.size) (ups vs who (.slice none 0 0, .slice none 0 0)) (fun k => if k = u.heap.size then (k, 0) else tag k) (fun y => if y = who then some (.pointer (some ⟨u.heap.size, 0, none⟩)) else g y) dv zs (n + 1) := by
  have hz : u.heap.size + 1 ≤ w'.heap.size := by have := hg.size; simpa using this
  have hsub : ∀ y d, y ≠ who → ups act who (some ⟨at_, 0, [], []⟩) y = some d → act y = some d := fun y d hy e => by rwa [ups_other _ _ hy] at e
  have hMl := (h.nb M h.nM).2
  have hk : ∀ k, k < u.heap.size → k ≠ M → w'.heap[k]? = u.heap[k]? := fun k hn hne => by
    rw [hg.block k (by simp; omega) (fun e => hne (by injection e)), Below.heap_alloc _ _ _ hn]
  have hkt : ∀ k, (tag k).2 ≠ 0 ∨ (tag k).1 ≠ M → k ≠ M := fun k hh e => by rw [e, h.tM] at hh; rcases hh with hh | hh <;> exact hh rfl
  have htg : ∀ k, k < u.heap.size → (if k = u.heap.size then (k, 0) else tag k) = tag k := fun k hk => if_neg (by omega)
  have hnew : ∀ k, k < u.heap.size → (tag k).1 ≠ u.heap.size := fun k hk => by have := h.tl k; omega
  have hpl : ∀ y d, act y = some d → ps y < u.heap.size := fun y d hd => (h.nb _ (h.ent y d hd).np).2
  have hmv := h.move (w' := w') (N' := fun k => N k ∨ k = u.heap.size) (act' := ups act who (some ⟨at_, 0, [], []⟩)) (ps' := ups ps who u.heap.size) (tag' := fun k => if k = u.heap.size then (k, 0) else tag k) u.heap.size (fun k hn h1 _ => hk k (h.nb k hn).2 (hkt k (.inr h1))) htg (fun k hn => .inl hn) (fun k hk e => absurd e (hnew k hk)) (fun k hk hl => by
    have e0 := htg k hk
    unfold Live at *
    simp only [e0] at hl
    rcases hl with hl | ⟨y, d, h1, h2⟩
    · exact .inl hl
    · by_cases hy : y = who
      · rw [hy, ups_same] at h2; exact absurd h2 (hnew k hk)
      · rw [ups_other _ _ hy] at h2; exact .inr ⟨y, d, hsub y d hy h1, h2⟩)
  refine ⟨hm, fun y => ?_, .inl h.nM, (htg M hMl).trans h.tM, fun k => ?_, fun k hn => ?_, fun y d hd => ?_, fun y d hd => ?_, fun y d y' d' h1 h2 he => ?_, own_of_heap h.row fun k e => hk k (h.nb k (h.rt k e).2).2 (hkt k (.inl (by rw [(h.rt k e).1]; exact Nat.one_ne_zero))), fun k e => ⟨(htg k (h.nb k (h.rt k e).2).2).trans (h.rt k e).1, .inl (h.rt k e).2⟩, hmv.2⟩
  · unfold ptrO
    by_cases hy : y = who
    · subst hy; rw [ups_same, ups_same]; simp
    · rw [ups_other _ _ hy, ups_other _ _ hy]; simp only [if_neg hy]; exact h.look y
  · show (if _ then _ else _ : Nat × Nat).1 ≤ k
    split
    · exact Nat.le_refl _
    · exact h.tl k
  · rcases hn with hn | rfl
    · exact ⟨(h.nb k hn).1, by have := (h.nb k hn).2; omega⟩
    · exact ⟨hL, by omega⟩
  · by_cases hy : y = who
    · subst hy
      rw [ups_same] at hd
      cases hd
      rw [ups_same, ups_same]
      have hb := (Block.new u (cellsD ⟨at_, 0, [], []⟩ (.slice none 0 0) (.slice none 0 0)) 47).of_heap (hg.block u.heap.size (by simp) (fun e => by injection e with e; omega))
      exact ⟨hb, .inr rfl, if_pos rfl, World.ownsRow_nil _ _ _ _, (fun k e => by cases e), World.ownsRow_nil _ _ _ _, (fun k e => by cases e)⟩
    · have hd' := hsub y d hy hd
      rw [ups_other _ _ hy, ups_other _ _ hy]
      exact hmv.1 y d hd' (by have := hpl y d hd'; omega)
  · by_cases hy : y = who
    · rw [hy, ups_same]; omega
    · rw [ups_other _ _ hy]; exact h.pM y d (hsub y d hy hd)
  · by_cases hy : y = who
    · by_cases hy' : y' = who
      · rw [hy, hy']
      · rw [hy, ups_same, ups_other _ _ hy'] at he
        have := hpl y' d' (hsub y' d' hy' h2); omega
    · by_cases hy' : y' = who
      · rw [hy', ups_same, ups_other _ _ hy] at he
        have := hpl y d (hsub y d hy h1); omega
      · rw [ups_other _ _ hy, ups_other _ _ hy'] at he
        exact h.inj y d y' d' (hsub y d hy h1) (hsub y' d' hy' h2) he
/-- A deed's row of reads has grown. -/
theorem PM.grewreads {w1 : World} (h : PM u L M N act ps vs tag g dv zs n) {who : Int} {d : D} {a : Option Addr} {m c : Nat} {l : List ByteArray} (hd : act who = some d) (hL : L ≤ u.heap.size) (hm : m = (d.reads ++ l).length) (hown : w1.ownsRow L 9 1 (.slice a m c) m ((d.reads ++ l).map Value.string))
    (hg : u.grownBy w1 (vs who).1.ownBlock) (hat : (Value.slice a m c).ownBlock = (vs who).1.ownBlock ∨ (Value.slice a m c).ownBlock = some u.heap.size) :
    PM (w1.setCell ⟨ps who, 2, none⟩ (.slice a m c)) L M (fun k => N k ∨ (Value.slice a m c).ownBlock = some k) (ups act who (some { d with reads := d.reads ++ l })) ps (ups vs who (.slice a m c, (vs who).2)) (fun k => if (Value.slice a m c).ownBlock = some k then (ps who, 1) else tag k) g dv zs n := by
  have hE := h.ent who d hd
  have hz := hg.size
  have hsz : (w1.setCell ⟨ps who, 2, none⟩ (.slice a m c)).heap.size = w1.heap.size := by simp [World.setCell]
  have hpl := hE.blk.lt
  have hpM := h.pM who d hd
  have hsc : ∀ k, k ≠ ps who → (w1.setCell ⟨ps who, 2, none⟩ (.slice a m c)).heap[k]? = w1.heap[k]? := fun k hk => Below.heap_setCell _ _ _ _ hk
  have hoT : ∀ k, (Value.slice a m c).ownBlock = some k → k < u.heap.size → tag k = (ps who, 1) := fun k e hk => by
    rcases hat with e2 | e2
    · rw [e2] at e; exact (hE.t1 k e).1
    · rw [e2] at e; injection e with e; omega
  have hk1 : ∀ k, k < u.heap.size → tag k ≠ (ps who, 1) → w1.heap[k]? = u.heap[k]? := fun k hk hn => hg.block k hk (fun e => hn (hE.t1 k e.symm).1)
  have htg : ∀ k, k < u.heap.size → (if (Value.slice a m c).ownBlock = some k then (ps who, 1) else tag k) = tag k := fun k hk => by
    split
    · rename_i e; exact (hoT k e hk).symm
    · rfl
  have hkk : ∀ k, N k → (tag k).1 ≠ ps who → (w1.setCell ⟨ps who, 2, none⟩ (.slice a m c)).heap[k]? = u.heap[k]? := fun k hn h2 => by
    rw [hsc k (fun e => h2 (by rw [e, hE.tp])), hk1 k (h.nb k hn).2 (fun e => h2 (by rw [e]))]
  have hop : ∀ k, (Value.slice a m c).ownBlock = some k → k ≠ ps who := fun k e e2 => by
    have := hoT k e (by omega)
    rw [e2, hE.tp] at this
    injection this with _ h2
    cases h2
  have hol : ∀ k, (Value.slice a m c).ownBlock = some k → L ≤ k ∧ k < w1.heap.size := fun k e => hown.lt k e
  have hmv := h.move (w' := w1.setCell ⟨ps who, 2, none⟩ (.slice a m c)) (N' := fun k => N k ∨ (Value.slice a m c).ownBlock = some k) (act' := ups act who (some { d with reads := d.reads ++ l })) (ps' := ps) (tag' := fun k => if (Value.slice a m c).ownBlock = some k then (ps who, 1) else tag k) (ps who)
    (fun k hn _ h2 => hkk k hn h2) htg (fun k hn => .inl hn) (fun k _ e => .inr ⟨who, d, hd, e⟩) (fun k hk hl => by
      have e0 := htg k hk
      unfold Live at *
      simp only [e0] at hl
      rcases hl with hl | ⟨y, d', h1, h2⟩
      · exact .inl hl
      · by_cases hy : y = who
        · exact .inr ⟨who, d, hd, by rw [h2, hy]⟩
        · rw [ups_other _ _ hy] at h1; exact .inr ⟨y, d', h1, h2⟩)
  have hsub : ∀ y d', y ≠ who → ups act who (some { d with reads := d.reads ++ l }) y = some d' → act y = some d' := fun y d' hy e => by rwa [ups_other _ _ hy] at e
  have hany : ∀ y d', ups act who (some { d with reads := d.reads ++ l }) y = some d' → ∃ d2, act y = some d2 := fun y d' e => by
    by_cases hy : y = who
    · exact ⟨d, by rw [hy]; exact hd⟩
    · exact ⟨d', hsub y d' hy e⟩
  refine ⟨h.map.of_heap (hkk M h.nM (by rw [h.tM]; exact hpM.symm)), fun y => ?_, .inl h.nM, (htg M (h.nb M h.nM).2).trans h.tM, fun k => ?_, fun k hn => ?_, fun y d' hd' => ?_, fun y d' hd' => ?_, fun y d1 y' d2 h1 h2 he => ?_, own_of_heap h.row fun k e => hkk k (h.rt k e).2 (by rw [(h.rt k e).1]; exact hpM.symm), fun k e => ⟨(htg k (h.nb k (h.rt k e).2).2).trans (h.rt k e).1, .inl (h.rt k e).2⟩, hmv.2⟩
  · rw [h.look y]
    unfold ptrO
    by_cases hy : y = who
    · rw [hy, hd, ups_same]
    · rw [ups_other _ _ hy]
  · show (if _ then _ else _ : Nat × Nat).1 ≤ k
    split
    · rename_i e
      rcases hat with e2 | e2
      · rw [e2] at e
        have := h.tl k
        rw [(hE.t1 k e).1] at this
        exact this
      · rw [e2] at e
        injection e with e
        show ps who ≤ k
        omega
    · exact h.tl k
  · rcases hn with hn | hn
    · exact ⟨(h.nb k hn).1, by have := (h.nb k hn).2; omega⟩
    · rw [hsz]; exact hol k hn
  · by_cases hy : y = who
    · subst hy
      rw [ups_same] at hd'
      cases hd'
      rw [ups_same]
      have hO : ∀ k, (vs y).2.ownBlock = some k → N k ∧ tag k = (ps y, 2) ∧ (w1.setCell ⟨ps y, 2, none⟩ (.slice a m c)).heap[k]? = u.heap[k]? := fun k e => by
        obtain ⟨h1, h2⟩ := hE.t2 k e
        refine ⟨h2, h1, ?_⟩
        rw [hsc k (fun e2 => by rw [e2, hE.tp] at h1; injection h1 with _ h3; cases h3), hk1 k (h.nb k h2).2 (by rw [h1]; intro e2; injection e2 with _ h3; cases h3)]
      have hb1 := (hE.blk.of_heap (hk1 _ hpl (by rw [hE.tp]; intro e2; injection e2 with _ h3; cases h3))).set 2 (.slice a m c)
      have hown2 : (w1.setCell ⟨ps y, 2, none⟩ (.slice a m c)).ownsRow L 9 1 (.slice a m c) (d.reads ++ l).length ((d.reads ++ l).map Value.string) := by
        rw [← hm]; exact own_setCell hown (fun e => hop _ e rfl) _
      have hT2 : ∀ k, (Value.slice a m c).ownBlock = some k → (if (Value.slice a m c).ownBlock = some k then (ps y, 1) else tag k) = (ps y, 1) ∧ (N k ∨ (Value.slice a m c).ownBlock = some k) := fun k e => ⟨if_pos e, .inr e⟩
      have hO2 : ∀ k, (vs y).2.ownBlock = some k → (if (Value.slice a m c).ownBlock = some k then (ps y, 1) else tag k) = (ps y, 2) ∧ (N k ∨ (Value.slice a m c).ownBlock = some k) := fun k e => ⟨(htg k (h.nb k (hO k e).1).2).trans (hO k e).2.1, .inl (hO k e).1⟩
      exact ⟨hb1, .inl hE.np, (htg _ hpl).trans hE.tp, hown2, hT2, own_of_heap hE.o2 fun k e => (hO k e).2.2, hO2⟩
    · have hd2 := hsub y d' hy hd'
      rw [ups_other _ _ hy]
      exact hmv.1 y d' hd2 (fun e => hy (h.inj y d' who d hd2 hd e))
  · obtain ⟨d2, h2⟩ := hany y d' hd'
    exact h.pM y d2 h2
  · obtain ⟨d3, h3⟩ := hany y d1 h1
    obtain ⟨d4, h4⟩ := hany y' d2 h2
    exact h.inj y d3 y' d4 h3 h4 he
/-- A deed's row of touches has grown. -/
theorem PM.grewtouches {w1 : World} (h : PM u L M N act ps vs tag g dv zs n) {who : Int} {d : D} {a : Option Addr} {m c : Nat} {l : List ByteArray} (hd : act who = some d) (hL : L ≤ u.heap.size) (hm : m = (d.touches ++ l).length) (hown : w1.ownsRow L 9 1 (.slice a m c) m ((d.touches ++ l).map Value.string))
    (hg : u.grownBy w1 (vs who).2.ownBlock) (hat : (Value.slice a m c).ownBlock = (vs who).2.ownBlock ∨ (Value.slice a m c).ownBlock = some u.heap.size) :
    PM (w1.setCell ⟨ps who, 3, none⟩ (.slice a m c)) L M (fun k => N k ∨ (Value.slice a m c).ownBlock = some k) (ups act who (some { d with touches := d.touches ++ l })) ps (ups vs who ((vs who).1, .slice a m c)) (fun k => if (Value.slice a m c).ownBlock = some k then (ps who, 2) else tag k) g dv zs n := by
  have hE := h.ent who d hd
  have hz := hg.size
  have hsz : (w1.setCell ⟨ps who, 3, none⟩ (.slice a m c)).heap.size = w1.heap.size := by simp [World.setCell]
  have hpl := hE.blk.lt
  have hpM := h.pM who d hd
  have hsc : ∀ k, k ≠ ps who → (w1.setCell ⟨ps who, 3, none⟩ (.slice a m c)).heap[k]? = w1.heap[k]? := fun k hk => Below.heap_setCell _ _ _ _ hk
  have hoT : ∀ k, (Value.slice a m c).ownBlock = some k → k < u.heap.size → tag k = (ps who, 2) := fun k e hk => by
    rcases hat with e2 | e2
    · rw [e2] at e; exact (hE.t2 k e).1
    · rw [e2] at e; injection e with e; omega
  have hk1 : ∀ k, k < u.heap.size → tag k ≠ (ps who, 2) → w1.heap[k]? = u.heap[k]? := fun k hk hn => hg.block k hk (fun e => hn (hE.t2 k e.symm).1)
  have htg : ∀ k, k < u.heap.size → (if (Value.slice a m c).ownBlock = some k then (ps who, 2) else tag k) = tag k := fun k hk => by
    split
    · rename_i e; exact (hoT k e hk).symm
    · rfl
  have hkk : ∀ k, N k → (tag k).1 ≠ ps who → (w1.setCell ⟨ps who, 3, none⟩ (.slice a m c)).heap[k]? = u.heap[k]? := fun k hn h2 => by
    rw [hsc k (fun e => h2 (by rw [e, hE.tp])), hk1 k (h.nb k hn).2 (fun e => h2 (by rw [e]))]
  have hop : ∀ k, (Value.slice a m c).ownBlock = some k → k ≠ ps who := fun k e e2 => by
    have := hoT k e (by omega)
    rw [e2, hE.tp] at this
    injection this with _ h2
    cases h2
  have hol : ∀ k, (Value.slice a m c).ownBlock = some k → L ≤ k ∧ k < w1.heap.size := fun k e => hown.lt k e
  have hmv := h.move (w' := w1.setCell ⟨ps who, 3, none⟩ (.slice a m c)) (N' := fun k => N k ∨ (Value.slice a m c).ownBlock = some k) (act' := ups act who (some { d with touches := d.touches ++ l })) (ps' := ps) (tag' := fun k => if (Value.slice a m c).ownBlock = some k then (ps who, 2) else tag k) (ps who)
    (fun k hn _ h2 => hkk k hn h2) htg (fun k hn => .inl hn) (fun k _ e => .inr ⟨who, d, hd, e⟩) (fun k hk hl => by
      have e0 := htg k hk
      unfold Live at *
      simp only [e0] at hl
      rcases hl with hl | ⟨y, d', h1, h2⟩
      · exact .inl hl
      · by_cases hy : y = who
        · exact .inr ⟨who, d, hd, by rw [h2, hy]⟩
        · rw [ups_other _ _ hy] at h1; exact .inr ⟨y, d', h1, h2⟩)
  have hsub : ∀ y d', y ≠ who → ups act who (some { d with touches := d.touches ++ l }) y = some d' → act y = some d' := fun y d' hy e => by rwa [ups_other _ _ hy] at e
  have hany : ∀ y d', ups act who (some { d with touches := d.touches ++ l }) y = some d' → ∃ d2, act y = some d2 := fun y d' e => by
    by_cases hy : y = who
    · exact ⟨d, by rw [hy]; exact hd⟩
    · exact ⟨d', hsub y d' hy e⟩
  refine ⟨h.map.of_heap (hkk M h.nM (by rw [h.tM]; exact hpM.symm)), fun y => ?_, .inl h.nM, (htg M (h.nb M h.nM).2).trans h.tM, fun k => ?_, fun k hn => ?_, fun y d' hd' => ?_, fun y d' hd' => ?_, fun y d1 y' d2 h1 h2 he => ?_, own_of_heap h.row fun k e => hkk k (h.rt k e).2 (by rw [(h.rt k e).1]; exact hpM.symm), fun k e => ⟨(htg k (h.nb k (h.rt k e).2).2).trans (h.rt k e).1, .inl (h.rt k e).2⟩, hmv.2⟩
  · rw [h.look y]
    unfold ptrO
    by_cases hy : y = who
    · rw [hy, hd, ups_same]
    · rw [ups_other _ _ hy]
  · show (if _ then _ else _ : Nat × Nat).1 ≤ k
    split
    · rename_i e
      rcases hat with e2 | e2
      · rw [e2] at e
        have := h.tl k
        rw [(hE.t2 k e).1] at this
        exact this
      · rw [e2] at e
        injection e with e
        show ps who ≤ k
        omega
    · exact h.tl k
  · rcases hn with hn | hn
    · exact ⟨(h.nb k hn).1, by have := (h.nb k hn).2; omega⟩
    · rw [hsz]; exact hol k hn
  · by_cases hy : y = who
    · subst hy
      rw [ups_same] at hd'
      cases hd'
      rw [ups_same]
      have hO : ∀ k, (vs y).1.ownBlock = some k → N k ∧ tag k = (ps y, 1) ∧ (w1.setCell ⟨ps y, 3, none⟩ (.slice a m c)).heap[k]? = u.heap[k]? := fun k e => by
        obtain ⟨h1, h2⟩ := hE.t1 k e
        refine ⟨h2, h1, ?_⟩
        rw [hsc k (fun e2 => by rw [e2, hE.tp] at h1; injection h1 with _ h3; cases h3), hk1 k (h.nb k h2).2 (by rw [h1]; intro e2; injection e2 with _ h3; cases h3)]
      have hb1 := (hE.blk.of_heap (hk1 _ hpl (by rw [hE.tp]; intro e2; injection e2 with _ h3; cases h3))).set 3 (.slice a m c)
      have hown2 : (w1.setCell ⟨ps y, 3, none⟩ (.slice a m c)).ownsRow L 9 1 (.slice a m c) (d.touches ++ l).length ((d.touches ++ l).map Value.string) := by
        rw [← hm]; exact own_setCell hown (fun e => hop _ e rfl) _
      have hT2 : ∀ k, (Value.slice a m c).ownBlock = some k → (if (Value.slice a m c).ownBlock = some k then (ps y, 2) else tag k) = (ps y, 2) ∧ (N k ∨ (Value.slice a m c).ownBlock = some k) := fun k e => ⟨if_pos e, .inr e⟩
      have hO2 : ∀ k, (vs y).1.ownBlock = some k → (if (Value.slice a m c).ownBlock = some k then (ps y, 2) else tag k) = (ps y, 1) ∧ (N k ∨ (Value.slice a m c).ownBlock = some k) := fun k e => ⟨(htg k (h.nb k (hO k e).1).2).trans (hO k e).2.1, .inl (hO k e).1⟩
      exact ⟨hb1, .inl hE.np, (htg _ hpl).trans hE.tp, own_of_heap hE.o1 fun k e => (hO k e).2.2, hO2, hown2, hT2⟩
    · have hd2 := hsub y d' hy hd'
      rw [ups_other _ _ hy]
      exact hmv.1 y d' hd2 (fun e => hy (h.inj y d' who d hd2 hd e))
  · obtain ⟨d2, h2⟩ := hany y d' hd'
    exact h.pM y d2 h2
  · obtain ⟨d3, h3⟩ := hany y d1 h1
    obtain ⟨d4, h4⟩ := hany y' d2 h2
    exact h.inj y d3 y' d4 h3 h4 he
/-- A deed is done: it is put at the row's end, and its key is let go. -/
theorem PM.closed {w3 : World} (h : PM u L M N act ps vs tag g dv zs n) {who : Int} {d : D} {a : Option Addr} {m c : Nat} {en : Int} {X : Obj} (hd : act who = some d) (hL : L ≤ u.heap.size) (hm : m = zs.length + 1)
    (hown : w3.ownsRow L 47 4 (.slice a m c) m (zs.flatMap cellsZD ++ cellsD { d with end_ := en } (vs who).1 (vs who).2))
    (hg : ((u.setCell ⟨ps who, 1, none⟩ (.int .i64 en)).alloc X).grownBy w3 dv.ownBlock) (hat : (Value.slice a m c).ownBlock = dv.ownBlock ∨ (Value.slice a m c).ownBlock = some (u.heap.size + 1)) :
    MapIs w3 KQ M n g ∧ ∀ w', MapIs w' KQ M (n + 1) (fun y => if y = who then some (.pointer none) else g y) → w3.grownBy w' (some M) →
      PM w' L M (fun k => N k ∨ (Value.slice a m c).ownBlock = some k) (ups act who none) ps vs (fun k => if (Value.slice a m c).ownBlock = some k then (M, 1) else tag k) (fun y => if y = who then some (.pointer none) else g y) (.slice a m c) (zs ++ [({ d with end_ := en }, (vs who).1, (vs who).2)]) (n + 1) := by
  have hE := h.ent who d hd
  have hpM := h.pM who d hd
  have hpl := hE.blk.lt
  have hMl := (h.nb M h.nM).2
  have hz3 : u.heap.size + 1 ≤ w3.heap.size := by have := hg.size; simpa [World.setCell] using this
  have hoT : ∀ k, (Value.slice a m c).ownBlock = some k → k < u.heap.size → tag k = (M, 1) := fun k e hk => by
    rcases hat with e2 | e2
    · rw [e2] at e; exact (h.rt k e).1
    · rw [e2] at e; injection e with e; omega
  have htg : ∀ k, k < u.heap.size → (if (Value.slice a m c).ownBlock = some k then (M, 1) else tag k) = tag k := fun k hk => by
    split
    · rename_i e; exact (hoT k e hk).symm
    · rfl
  -- what stands in w3
  have h3 : ∀ k, k < u.heap.size → k ≠ ps who → tag k ≠ (M, 1) → w3.heap[k]? = u.heap[k]? := fun k hk h1 h2 => by
    rw [hg.block k (by simp [World.setCell]; omega) (fun e => h2 (h.rt k e.symm).1), Below.heap_alloc _ _ _ (by simpa [World.setCell] using hk), Below.heap_setCell _ _ _ _ h1]
  refine ⟨h.map.of_heap (h3 M hMl (fun e => hpM e.symm) (by rw [h.tM]; intro e2; injection e2 with _ h4; cases h4)), fun w' hmp hgm => ?_⟩
  have hz' := hgm.size
  have hkt : ∀ k, (tag k).2 ≠ 0 ∨ (tag k).1 ≠ M → k ≠ M := fun k hh e => by rw [e, h.tM] at hh; rcases hh with hh | hh <;> exact hh rfl
  have hkk : ∀ k, N k → (tag k).1 ≠ M → k ≠ ps who → w'.heap[k]? = u.heap[k]? := fun k hn h1 h2 => by
    rw [hgm.block k (by have := (h.nb k hn).2; omega) (fun e => hkt k (.inr h1) (by injection e)), h3 k (h.nb k hn).2 h2 (fun e => h1 (by rw [e]))]
  have hsub : ∀ y d, ups act who none y = some d → y ≠ who ∧ act y = some d := fun y d e => by
    unfold ups at e
    split at e
    · cases e
    · rename_i h; exact ⟨h, e⟩
  have hmv := h.move (w' := w') (N' := fun k => N k ∨ (Value.slice a m c).ownBlock = some k) (act' := ups act who none) (ps' := ps) (tag' := fun k => if (Value.slice a m c).ownBlock = some k then (M, 1) else tag k) (ps who)
    (fun k hn h1 h2 => hkk k hn h1 (fun e => h2 (by rw [e, hE.tp]))) htg (fun k hn => .inl hn) (fun k _ e => .inr ⟨who, d, hd, e⟩) (fun k hk hl => by
      have e0 := htg k hk
      unfold Live at *
      simp only [e0] at hl
      rcases hl with hl | ⟨y, d', h1, h2⟩
      · exact .inl hl
      · exact .inr ⟨y, d', (hsub y d' h1).2, h2⟩)
  have hol : ∀ k, (Value.slice a m c).ownBlock = some k → L ≤ k ∧ k < w3.heap.size := fun k e => hown.lt k e
  have hoM : ∀ k, (Value.slice a m c).ownBlock = some k → k ≠ M := fun k e e2 => by
    have := hoT k e (by omega)
    rw [e2, h.tM] at this
    injection this with _ h2
    cases h2
  refine ⟨hmp, fun y => ?_, .inl h.nM, (htg M hMl).trans h.tM, fun k => ?_, fun k hn => ?_, fun y d' hd' => ?_, fun y d' hd' => h.pM y d' (hsub y d' hd').2, fun y d1 y' d2 h1 h2 => h.inj y d1 y' d2 (hsub y d1 h1).2 (hsub y' d2 h2).2, ?_, fun k e => ⟨if_pos e, .inr e⟩, fun z hz => ?_⟩
  · unfold ptrO ups
    by_cases hy : y = who
    · simp [hy]
    · simp only [if_neg hy]
      exact h.look y
  · show (if _ then _ else _ : Nat × Nat).1 ≤ k
    split
    · rename_i e
      rcases hat with e2 | e2
      · rw [e2] at e
        have := h.tl k
        rw [(h.rt k e).1] at this
        exact this
      · rw [e2] at e
        injection e with e
        show M ≤ k
        omega
    · exact h.tl k
  · rcases hn with hn | hn
    · exact ⟨(h.nb k hn).1, by have := (h.nb k hn).2; omega⟩
    · have := hol k hn; exact ⟨this.1, by omega⟩
  · obtain ⟨hy, hd2⟩ := hsub y d' hd'
    exact hmv.1 y d' hd2 (fun e => hy (h.inj y d' who d hd2 hd e))
  · rw [List.length_append, List.flatMap_append]
    have h1 : w'.ownsRow L 47 4 (.slice a m c) m (zs.flatMap cellsZD ++ cellsD { d with end_ := en } (vs who).1 (vs who).2) := own_of_heap hown fun k e => hgm.block k (hol k e).2 (fun e2 => hoM k e (by injection e2))
    subst hm
    simpa [cellsZD] using h1
  · rcases List.mem_append.1 hz with hz | hz
    · exact hmv.2 z hz
    · obtain rfl : z = ({ d with end_ := en }, (vs who).1, (vs who).2) := by simpa using hz
      have hrow : ∀ k i, tag k = (ps who, i) → N k → i ≠ 0 → w'.heap[k]? = u.heap[k]? ∧ (N k ∨ (Value.slice a m c).ownBlock = some k) ∧ ¬ Live M (ups act who none) ps (fun k => if (Value.slice a m c).ownBlock = some k then (M, 1) else tag k) k := fun k i e hn hi => by
        refine ⟨hkk k hn (by rw [e]; exact hpM) (fun e2 => ?_), .inl hn, ?_⟩
        · rw [e2, hE.tp] at e; injection e with _ e; exact hi e.symm
        · have e0 := (htg k (h.nb k hn).2).trans e
          unfold Live
          simp only [e0]
          rintro (h1 | ⟨y, d', h1, h2⟩)
          · exact hpM h1
          · obtain ⟨hy, hd2⟩ := hsub y d' h1
            exact hy (h.inj y d' who d hd2 hd h2.symm)
      exact ⟨RowIn.of_own (own_of_heap hE.o1 fun k e => (hrow k 1 (hE.t1 k e).1 (hE.t1 k e).2 (by omega)).1) fun k e => (hrow k 1 (hE.t1 k e).1 (hE.t1 k e).2 (by omega)).2,
        RowIn.of_own (own_of_heap hE.o2 fun k e => (hrow k 2 (hE.t2 k e).1 (hE.t2 k e).2 (by omega)).1) fun k e => (hrow k 2 (hE.t2 k e).1 (hE.t2 k e).2 (by omega)).2⟩
end
end Go.Proofs.Ytaonfacbmolklaa

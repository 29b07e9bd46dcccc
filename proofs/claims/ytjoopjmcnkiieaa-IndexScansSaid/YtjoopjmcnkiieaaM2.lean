/- The texts Split, St2, Rs, Tree, Tree2, Tree3, Tri, DelL of this seat, one behind the other. Conditions: each says its own. -/
import Derived.StillTailTactics
import Derived.Test.YtjoopjmcnkiieaaM1

/- split: a node that is too full becomes two. Conditions: the node is there. -/
namespace Go.Proofs.Ytjoopjmcnkiieaa
open Go.RowKit Go.Lib
set_option linter.unusedSimpArgs false
set_option linter.unusedVariables false

theorem newB_nil {w : World} {v : Value} (h : ∀ k, v.ownBlock = some k → w.heap.size ≤ k) : NewB w (.slice none 0 0) v := by
  unfold NewB
  cases hv : v.ownBlock with
  | none => exact .inl rfl
  | some g => exact .inr ⟨g, rfl, h g hv⟩
theorem grown_below {w w' : World} (h : Below w.heap.size w w') (r : Option Nat) : w.grownBy w' r := ⟨h.os, h.tape, h.output, h.size, fun k hk _ => h.block k hk⟩
theorem Fr.of_below {F : Nat → Nat} {w w' : World} (h : Below w.heap.size w w') (h1 : ∀ k, F k ≤ 1) (h2 : ∀ k, w.heap.size ≤ k → F k = 0) : Fr F F w w' :=
  ⟨h.os, h.tape, h.output, h.size, fun k hk _ => h.block k hk, fun _ _ => Nat.le_refl _, h1, fun k hk => h2 k (by have := h.size; omega)⟩
section
variable {w0 u : World} {F0 : Nat → Nat} {p : Nat} {c1 c2 c3 v1 v2 v3 : Value} {K : List ByteArray} {V : List Int} {C : List Nat} {E : List (Nat × Value × TypeId)}
/-- slices.Clone of texts, for a first row that is nil. -/
theorem St.cln1 {a : Option Addr} {n c B : Nat} {L : List ByteArray} (h : St w0 F0 u p c1 c2 c3 (.slice none 0 0) v2 v3 [] V C E) (hc : Cells B u a (L.map Value.string)) (hn : n = L.length) (hnone : a = none → c = 0) (hl : L.length ≤ 1000000) :
    Calls Try.prog 45 #[.slice a n c] u fun e w' => ∃ a' c', e = .returned (.slice a' n c') ∧ St w0 F0 w' p c1 c2 c3 (.slice a' n c') v2 v3 L V C E := by
  subst hn
  have := clnS_any u a L.length c B (L.map Value.string) (by simp) hc (str_one L) hnone (by simp; exact hl)
  refine this.mono ?_
  rintro e w' ⟨a', c', rfl, h1, h2, h3⟩
  rw [List.length_map] at h1 h3
  exact ⟨a', c', by rw [List.length_map], h.row1 (grown_below h2 _) (newB_nil h3) h1⟩
theorem St.cln2 {a : Option Addr} {n c B : Nat} {L : List Int} (h : St w0 F0 u p c1 c2 c3 v1 (.slice none 0 0) v3 K [] C E) (hc : Cells B u a (L.map numV)) (hn : n = L.length) (hnone : a = none → c = 0) (hl : L.length ≤ 1000000) :
    Calls Try.prog 46 #[.slice a n c] u fun e w' => ∃ a' c', e = .returned (.slice a' n c') ∧ St w0 F0 w' p c1 c2 c3 v1 (.slice a' n c') v3 K L C E := by
  subst hn
  have := clnI_any u a L.length c B (L.map numV) (by simp) hc (num_one L) hnone (by simp; exact hl)
  refine this.mono ?_
  rintro e w' ⟨a', c', rfl, h1, h2, h3⟩
  rw [List.length_map] at h1 h3
  exact ⟨a', c', by rw [List.length_map], h.row2 (grown_below h2 _) (newB_nil h3) h1⟩
theorem St.cln3 {a : Option Addr} {n c B : Nat} {L : List Nat} (h : St w0 F0 u p c1 c2 c3 v1 v2 (.slice none 0 0) K V [] E) (hc : Cells B u a (L.map ptrV)) (hn : n = L.length) (hnone : a = none → c = 0) (hl : L.length ≤ 1000000) :
    Calls Try.prog 47 #[.slice a n c] u fun e w' => ∃ a' c', e = .returned (.slice a' n c') ∧ St w0 F0 w' p c1 c2 c3 v1 v2 (.slice a' n c') K V L E := by
  subst hn
  have := clnP_any u a L.length c B (L.map ptrV) (by simp) hc (ptr_one L) hnone (by simp; exact hl)
  refine this.mono ?_
  rintro e w' ⟨a', c', rfl, h1, h2, h3⟩
  rw [List.length_map] at h1 h3
  exact ⟨a', c', by rw [List.length_map], h.row3 (grown_below h2 _) (newB_nil h3) h1⟩
end
theorem grown_refl (w : World) (r : Option Nat) : w.grownBy w r := ⟨rfl, rfl, rfl, Nat.le_refl _, fun _ _ _ => rfl⟩
/-- The node's slices are cut to their first elements: stored, nothing made. -/
theorem NodeAt.cut1 {w : World} {p : Nat} {a : Option Addr} {n c m : Nat} {v2 v3 : Value} {K : List ByteArray} {V : List Int} {C : List Nat} (h : NodeAt w p (.slice a n c) v2 v3 K V C) (h1 : ∀ k, ow p (.slice a n c) v2 v3 k ≤ 1) (hm : m ≤ K.length) (ha : ∃ g, a = some ⟨g, 0, none⟩) :
    NodeAt (w.setCell ⟨p, 0, none⟩ (.slice a m m)) p (.slice a m m) v2 v3 (K.take m) V C ∧ Fr (ow p (.slice a n c) v2 v3) (ow p (.slice a m m) v2 v3) w (w.setCell ⟨p, 0, none⟩ (.slice a m m)) := by
  obtain ⟨g, rfl⟩ := ha
  obtain ⟨a9, c9, e9, hlc, _⟩ := h.r1.form
  rw [List.length_map] at e9 hlc
  injection e9 with _ e2 e3
  subst e2 e3
  have h2 := ((St.start h h1).row1 (v1' := .slice (some ⟨g, 0, none⟩) m m) (K' := K.take m) (grown_refl _ _) (.inl rfl) (by rw [List.map_take]; exact h.r1.take (by rw [List.length_map]; exact hm) (Nat.le_refl _) (by omega))).put0 (.slice (some ⟨g, 0, none⟩) m m)
  exact ⟨h2.end, h2.fr⟩
theorem NodeAt.cut2 {w : World} {p : Nat} {a : Option Addr} {n c m : Nat} {v1 v3 : Value} {K : List ByteArray} {V : List Int} {C : List Nat} (h : NodeAt w p v1 (.slice a n c) v3 K V C) (h1 : ∀ k, ow p v1 (.slice a n c) v3 k ≤ 1) (hm : m ≤ V.length) (ha : ∃ g, a = some ⟨g, 0, none⟩) :
    NodeAt (w.setCell ⟨p, 1, none⟩ (.slice a m m)) p v1 (.slice a m m) v3 K (V.take m) C ∧ Fr (ow p v1 (.slice a n c) v3) (ow p v1 (.slice a m m) v3) w (w.setCell ⟨p, 1, none⟩ (.slice a m m)) := by
  obtain ⟨g, rfl⟩ := ha
  obtain ⟨a9, c9, e9, hlc, _⟩ := h.r2.form
  rw [List.length_map] at e9 hlc
  injection e9 with _ e2 e3
  subst e2 e3
  have h2 := ((St.start h h1).row2 (v2' := .slice (some ⟨g, 0, none⟩) m m) (V' := V.take m) (grown_refl _ _) (.inl rfl) (by rw [List.map_take]; exact h.r2.take (by rw [List.length_map]; exact hm) (Nat.le_refl _) (by omega))).put1 (.slice (some ⟨g, 0, none⟩) m m)
  exact ⟨h2.end, h2.fr⟩
theorem NodeAt.cut3 {w : World} {p : Nat} {a : Option Addr} {n c m : Nat} {v1 v2 : Value} {K : List ByteArray} {V : List Int} {C : List Nat} (h : NodeAt w p v1 v2 (.slice a n c) K V C) (h1 : ∀ k, ow p v1 v2 (.slice a n c) k ≤ 1) (hm : m ≤ C.length) (ha : ∃ g, a = some ⟨g, 0, none⟩) :
    NodeAt (w.setCell ⟨p, 2, none⟩ (.slice a m m)) p v1 v2 (.slice a m m) K V (C.take m) ∧ Fr (ow p v1 v2 (.slice a n c)) (ow p v1 v2 (.slice a m m)) w (w.setCell ⟨p, 2, none⟩ (.slice a m m)) := by
  obtain ⟨g, rfl⟩ := ha
  obtain ⟨a9, c9, e9, hlc, _⟩ := h.r3.form
  rw [List.length_map] at e9 hlc
  injection e9 with _ e2 e3
  subst e2 e3
  have h2 := ((St.start h h1).row3 (v3' := .slice (some ⟨g, 0, none⟩) m m) (C' := C.take m) (grown_refl _ _) (.inl rfl) (by rw [List.map_take]; exact h.r3.take (by rw [List.length_map]; exact hm) (Nat.le_refl _) (by omega))).put2 (.slice (some ⟨g, 0, none⟩) m m)
  exact ⟨h2.end, h2.fr⟩
theorem NodeAt.drew {w : World} {p : Nat} {v1 v2 v3 : Value} {K : List ByteArray} {V : List Int} {C : List Nat} (h : NodeAt w p v1 v2 v3 K V C) : NodeAt w.drew p v1 v2 v3 K V C := h.of_heap fun _ _ => rfl
/-- A row with something in it has a block. -/
theorem Arr.block {w : World} {e : TypeId} {a : Option Addr} {n c : Nat} {xs : List Value} (h : Arr w e (.slice a n c) xs) (hx : 0 < xs.length) : ∃ g, a = some ⟨g, 0, none⟩ := by
  rcases h with ⟨_, h2⟩ | ⟨g, cap, cur, h0, _⟩
  · subst h2; simp at hx
  · injection h0 with e1 _ _; exact ⟨g, e1⟩
/-- split leaves a node that is not too full. -/
theorem split_small {w : World} {p tb : Nat} {v1 v2 v3 : Value} {K : List ByteArray} {V : List Int} {C : List Nat} {o : Nat} (h : NodeAt w p v1 v2 v3 K V C) (ho : w.cell? ⟨tb, 0, none⟩ = some (.int .i64 o)) (hK : K.length ≤ o) (ho2 : o ≤ 64) :
    Calls Try.prog 31 #[.pointer (some ⟨tb, 0, none⟩), .pointer (some ⟨p, 0, none⟩)] w fun e w' => e = .returned (.tuple #[.pointer none, .string ⟨#[]⟩]) ∧ Below w.heap.size w w' := by
  obtain ⟨a1, c1, e1, _⟩ := h.str
  subst e1
  have d0 := h.blk.cell (i := 0) rfl
  generalize K.length = n at *
  clear h
  go_enter Try.func31, Try.ntmps31
  go_wp2_with fail
  refine wp_region_noPanic ?_
  refine wp_region_J (S := fun u : World => u.cell? ⟨p, 0, none⟩ = some (.slice a1 n c1) ∧ u.cell? ⟨tb, 0, none⟩ = some (.int .i64 o)) (fun _ => false) (by kernel_rfl) ?_
  have hHeld : (fun u : World => u.cell? ⟨p, 0, none⟩ = some (.slice a1 n c1) ∧ u.cell? ⟨tb, 0, none⟩ = some (.int .i64 o)) w.drew := ⟨d0, ho⟩
  refine wpAnyJ_take0 (i := 0) (v := ?_) rfl (by kernel_rfl) (by kernel_rfl) (by kernel_rfl) (fun _ _ _ h => h) (Or.inl ⟨by rfl, ?_⟩) ?_
  rotate_left
  focus ((intro w hSw; clear hSw; go_simp); try with_reducible rfl)
  (try simp only [Act.put, List.getElem_toArray, List.getElem_cons_zero, List.getElem_cons_succ, List.setIfInBounds_toArray, List.set_cons_zero, List.set_cons_succ])
  refine wpAnyJ_take0 (i := 1) (v := ?_) rfl (by kernel_rfl) (by kernel_rfl) (by kernel_rfl) (fun _ _ _ h => h) (Or.inl ⟨by rfl, ?_⟩) ?_
  rotate_left
  focus ((intro w hSw; clear hSw; go_simp); try with_reducible rfl)
  (try simp only [Act.put, List.getElem_toArray, List.getElem_cons_zero, List.getElem_cons_succ, List.setIfInBounds_toArray, List.set_cons_zero, List.set_cons_succ])
  refine wpAnyJ_take0 (i := 2) (v := ?_) rfl (by kernel_rfl) (by kernel_rfl) (by kernel_rfl) (fun _ _ _ h => h) (Or.inl ⟨by rfl, ?_⟩) ?_
  rotate_left
  focus ((intro w hSw; clear hSw; go_simp); try with_reducible rfl)
  (try simp only [Act.put, List.getElem_toArray, List.getElem_cons_zero, List.getElem_cons_succ, List.setIfInBounds_toArray, List.set_cons_zero, List.set_cons_succ])
  refine wpAnyJ_take (i := 3) (v := ?_) rfl (by kernel_rfl) (by kernel_rfl) (by kernel_rfl) (by kernel_rfl) (fun _ _ _ h => h) (Or.inl ⟨by rfl, ?_⟩) (by assumption) ?_
  rotate_left
  focus ((intro w hSw; (try dsimp only at hSw); go_simp); try with_reducible rfl)
  (try simp only [Act.put, List.getElem_toArray, List.getElem_cons_zero, List.getElem_cons_succ, List.setIfInBounds_toArray, List.set_cons_zero, List.set_cons_succ])
  refine wpAnyJ_take0 (i := 4) (v := ?_) rfl (by kernel_rfl) (by kernel_rfl) (by kernel_rfl) (fun _ _ _ h => h) (Or.inl ⟨by rfl, ?_⟩) ?_
  rotate_left
  focus ((intro w hSw; clear hSw; go_simp); try with_reducible rfl)
  (try simp only [Act.put, List.getElem_toArray, List.getElem_cons_zero, List.getElem_cons_succ, List.setIfInBounds_toArray, List.set_cons_zero, List.set_cons_succ])
  refine wpAnyJ_take0 (i := 5) (v := ?_) rfl (by kernel_rfl) (by kernel_rfl) (by kernel_rfl) (fun _ _ _ h => h) (Or.inl ⟨by rfl, ?_⟩) ?_
  rotate_left
  focus ((intro w hSw; clear hSw; go_simp); try with_reducible rfl)
  (try simp only [Act.put, List.getElem_toArray, List.getElem_cons_zero, List.getElem_cons_succ, List.setIfInBounds_toArray, List.set_cons_zero, List.set_cons_succ])
  refine wpAnyJ_take0 (i := 6) (v := ?_) rfl (by kernel_rfl) (by kernel_rfl) (by kernel_rfl) (fun _ _ _ h => h) (Or.inl ⟨by rfl, ?_⟩) ?_
  rotate_left
  focus ((intro w hSw; clear hSw; go_simp); try with_reducible rfl)
  (try simp only [Act.put, List.getElem_toArray, List.getElem_cons_zero, List.getElem_cons_succ, List.setIfInBounds_toArray, List.set_cons_zero, List.set_cons_succ])
  refine wpAnyJ_take0 (i := 7) (v := ?_) rfl (by kernel_rfl) (by kernel_rfl) (by kernel_rfl) (fun _ _ _ h => h) (Or.inl ⟨by rfl, ?_⟩) ?_
  rotate_left
  focus ((intro w hSw; clear hSw; go_simp); try with_reducible rfl)
  (try simp only [Act.put, List.getElem_toArray, List.getElem_cons_zero, List.getElem_cons_succ, List.setIfInBounds_toArray, List.set_cons_zero, List.set_cons_succ])
  refine wpAnyJ_take (i := 8) (v := ?_) rfl (by kernel_rfl) (by kernel_rfl) (by kernel_rfl) (by kernel_rfl) (fun _ _ _ h => h) (Or.inl ⟨by rfl, ?_⟩) (by assumption) ?_
  rotate_left
  focus ((intro w hSw; (try dsimp only at hSw); go_simp); try with_reducible rfl)
  (try simp only [Act.put, List.getElem_toArray, List.getElem_cons_zero, List.getElem_cons_succ, List.setIfInBounds_toArray, List.set_cons_zero, List.set_cons_succ])
  refine wpAnyJ_take0 (i := 9) (v := ?_) rfl (by kernel_rfl) (by kernel_rfl) (by kernel_rfl) (fun _ _ _ h => h) (Or.inl ⟨by rfl, ?_⟩) ?_
  rotate_left
  focus ((intro w hSw; clear hSw; go_simp); try with_reducible rfl)
  (try simp only [Act.put, List.getElem_toArray, List.getElem_cons_zero, List.getElem_cons_succ, List.setIfInBounds_toArray, List.set_cons_zero, List.set_cons_succ])
  refine wpAnyJ_done (by kernel_rfl) ?_ _
  refine NoPanic.normal ?_
  go_wp2_with fail
  go_ret2
  exact ⟨rfl, (Below.refl _ _).drew⟩
/-- What split makes of a leaf. -/
def SplitLeaf (o p : Nat) (v1 v2 v3 : Value) (K : List ByteArray) (V : List Int) (w : World) (e : Ending) (w' : World) : Prop :=
  ∃ (q : Nat) (key : ByteArray) (v1' v2' r1 r2 : Value), K[(o + 1) / 2]? = some key ∧ e = .returned (.tuple #[.pointer (some ⟨q, 0, none⟩), .string key]) ∧
    NodeAt w' p v1' v2' v3 (K.take ((o + 1) / 2)) (V.take ((o + 1) / 2)) [] ∧ NodeAt w' q r1 r2 (.slice none 0 0) (K.drop ((o + 1) / 2)) (V.drop ((o + 1) / 2)) [] ∧
    Fr (ow p v1 v2 v3) (fun k => ow p v1' v2' v3 k + ow q r1 r2 (.slice none 0 0) k) w w'
/-- What split makes of a fork. -/
def SplitFork (o p : Nat) (v1 v2 v3 : Value) (K : List ByteArray) (C : List Nat) (w : World) (e : Ending) (w' : World) : Prop :=
  ∃ (q : Nat) (key : ByteArray) (v1' v3' r1 r3 : Value), K[(o + 1) / 2]? = some key ∧ e = .returned (.tuple #[.pointer (some ⟨q, 0, none⟩), .string key]) ∧
    NodeAt w' p v1' v2 v3' (K.take ((o + 1) / 2)) [] (C.take ((o + 1) / 2 + 1)) ∧ NodeAt w' q r1 (.slice none 0 0) r3 (K.drop ((o + 1) / 2 + 1)) [] (C.drop ((o + 1) / 2 + 1)) ∧
    Fr (ow p v1 v2 v3) (fun k => ow p v1' v2 v3' k + ow q r1 (.slice none 0 0) r3 k) w w'
/-- A new node, empty yet, beside another one. -/
theorem node_new {w : World} {p : Nat} {v1 v2 v3 : Value} {K : List ByteArray} {V : List Int} {C : List Nat} (h : NodeAt w p v1 v2 v3 K V C) (h1 : ∀ k, ow p v1 v2 v3 k ≤ 1) :
    let w1 := w.alloc (.cells #[.slice none 0 0, .slice none 0 0, .slice none 0 0] 69)
    NodeAt w1 p v1 v2 v3 K V C ∧ St w1 (ow w.heap.size (.slice none 0 0) (.slice none 0 0) (.slice none 0 0)) w1 w.heap.size (.slice none 0 0) (.slice none 0 0) (.slice none 0 0) (.slice none 0 0) (.slice none 0 0) (.slice none 0 0) [] [] [] [] ∧
      (∀ k, ow w.heap.size (.slice none 0 0) (.slice none 0 0) (.slice none 0 0) k + ow p v1 v2 v3 k ≤ 1) ∧ Fr (ow p v1 v2 v3) (fun k => ow w.heap.size (.slice none 0 0) (.slice none 0 0) (.slice none 0 0) k + ow p v1 v2 v3 k) w w1 := by
  intro w1
  have hb : NodeAt w1 w.heap.size (.slice none 0 0) (.slice none 0 0) (.slice none 0 0) [] [] [] := ⟨Block.new w [.slice none 0 0, .slice none 0 0, .slice none 0 0] _, Arr.nil, Arr.nil, Arr.nil⟩
  have ho : ∀ k, ow w.heap.size (.slice none 0 0) (.slice none 0 0) (.slice none 0 0) k = if k = w.heap.size then 1 else 0 := fun k => by unfold ow; simp only [rb_nil]; omega
  have hn := (Fr.refl h1 h.hi).new (w := w) (.cells #[.slice none 0 0, .slice none 0 0, .slice none 0 0] 69)
  refine ⟨h.of_heap fun k hk => Below.heap_alloc _ _ _ (by
    by_cases hkk : k < w.heap.size
    · exact hkk
    · have := h.hi k (by omega); omega), St.start hb (fun k => by rw [ho]; split <;> omega), fun k => ?_, hn.congr (fun _ => rfl) (fun k => by rw [ho]; omega)⟩
  have := hn.one k
  rw [ho]; omega
theorem NodeAt.tail1 {w : World} {p g n c : Nat} {v2 v3 : Value} {K : List ByteArray} {V : List Int} {C : List Nat} (h : NodeAt w p (.slice (some ⟨g, 0, none⟩) n c) v2 v3 K V C) (m : Nat) : Cells w.heap.size w (some ⟨g, m, none⟩) ((K.drop m).map Value.string) := by
  have := h.r1.cells.2.drop m
  rw [Nat.zero_add] at this
  rw [List.map_drop]; exact this
theorem NodeAt.tail2 {w : World} {p g n c : Nat} {v1 v3 : Value} {K : List ByteArray} {V : List Int} {C : List Nat} (h : NodeAt w p v1 (.slice (some ⟨g, 0, none⟩) n c) v3 K V C) (m : Nat) : Cells w.heap.size w (some ⟨g, m, none⟩) ((V.drop m).map numV) := by
  have := h.r2.cells.2.drop m
  rw [Nat.zero_add] at this
  rw [List.map_drop]; exact this
theorem NodeAt.tail3 {w : World} {p g n c : Nat} {v1 v2 : Value} {K : List ByteArray} {V : List Int} {C : List Nat} (h : NodeAt w p v1 v2 (.slice (some ⟨g, 0, none⟩) n c) K V C) (m : Nat) : Cells w.heap.size w (some ⟨g, m, none⟩) ((C.drop m).map ptrV) := by
  have := h.r3.cells.2.drop m
  rw [Nat.zero_add] at this
  rw [List.map_drop]; exact this
set_option maxRecDepth 100000 in
set_option maxHeartbeats 16000000 in
theorem split_leaf {w : World} {p tb o : Nat} {v1 v2 v3 : Value} {K : List ByteArray} {V : List Int} (h : NodeAt w p v1 v2 v3 K V []) (h1 : ∀ k, ow p v1 v2 v3 k ≤ 1) (ho : w.cell? ⟨tb, 0, none⟩ = some (.int .i64 o)) (hK : K.length = o + 1) (hV : V.length = o + 1) (ho3 : 3 ≤ o) (ho2 : o ≤ 64) :
    Calls Try.prog 31 #[.pointer (some ⟨tb, 0, none⟩), .pointer (some ⟨p, 0, none⟩)] w (SplitLeaf o p v1 v2 v3 K V w) := by
  obtain ⟨a1, c1, e1, hrow⟩ := h.str
  obtain ⟨a2, c2, e2, hlc2, _⟩ := h.r2.form
  rw [List.length_map] at e2 hlc2
  subst e1 e2
  have hlc1 : K.length ≤ c1 := by
    obtain ⟨a9, c9, e9, h9, _⟩ := h.r1.form
    injection e9 with _ _ e9
    subst e9
    simpa using h9
  have hcm1 : c1 ≤ 9223372036854775807 ∧ c2 ≤ 9223372036854775807 := by
    obtain ⟨a9, c9, e9, _, h9, _⟩ := h.r1.form
    obtain ⟨a8, c8, e8, _, h8, _⟩ := h.r2.form
    injection e9 with _ _ e9
    injection e8 with _ _ e8
    subst e9 e8
    exact ⟨h9, h8⟩
  obtain ⟨g1, rfl⟩ := h.r1.block (by rw [List.length_map]; omega)
  obtain ⟨g2, rfl⟩ := h.r2.block (by rw [List.length_map]; omega)
  have d0 := h.blk.cell (i := 0) rfl
  have d1 := h.blk.cell (i := 1) rfl
  obtain ⟨m, hm⟩ : ∃ m, (o + 1) / 2 = m := ⟨_, rfl⟩
  have hmI : ((o : Int) + 1) / 2 = m := by omega
  have hm1 : m < o + 1 := by omega
  obtain ⟨key, hkey⟩ : ∃ key, K[m]? = some key := get_some (by omega)
  obtain ⟨gg, hgg, _, hck, _⟩ := h.r1.cell (i := m) (x := .string key) (by rw [List.getElem?_map, hkey]; rfl)
  injection hgg with hgg
  injection hgg with hgg _
  subst hgg
  have HKEY := Lib.hid hkey
  obtain ⟨HP1, HST, HD, HF1⟩ := node_new h h1
  have HP1 := Lib.hid HP1
  have HD := Lib.hid HD
  have HF1 := Lib.hid HF1
  have HL := Lib.hid (fun u (hu : NodeAt u p (.slice (some ⟨g1, 0, none⟩) K.length c1) (.slice (some ⟨g2, 0, none⟩) V.length c2) v3 K V []) => (show Calls Try.prog 38 #[.pointer (some ⟨p, 0, none⟩)] u fun e w' => e = .returned (.bool true) ∧ u = w' from leaf_any hu))
  obtain ⟨Q, hQ⟩ : ∃ Q, SplitLeaf o p (.slice (some ⟨g1, 0, none⟩) K.length c1) (.slice (some ⟨g2, 0, none⟩) V.length c2) v3 K V w = Q := ⟨_, rfl⟩
  have HQ := Lib.hid hQ
  rw [hQ]
  have HKL := Lib.hid hK
  have HVL := Lib.hid hV
  have HH := Lib.hid h
  have HO1 := Lib.hid h1
  have HM := Lib.hid hm
  have hlp := h.blk.lt
  have hltb := World.block_lt_of_cell? w _ ho
  have hlg1 := World.block_lt_of_cell? w _ hck
  rw [hK] at d0 hlc1 HP1 HD HF1 HL
  rw [hV] at d1 hlc2 HP1 HD HF1 HL
  have hcm3 : ¬ c1 = m := by omega
  have hcm4 : ¬ c2 = m := by omega
  have hcm5 : (c1 : Int) ≤ 9223372036854775807 := by omega
  have hcm6 : (c2 : Int) ≤ 9223372036854775807 := by omega
  have hcm7 : m ≤ c1 := by omega
  have hcm8 : m ≤ c2 := by omega
  have hcm9 : ¬ ((o : Int) + 1 < m) := by omega
  have hcm10 : (m : Int) ≤ (o : Int) + 1 := by omega
  clear h h1 hrow hkey hQ hK hV hm
  go_enter Try.func31, Try.ntmps31
  go_wp2_with fail
  refine wp_region_noPanic ?_
  refine wp_region_J (S := fun u : World => u.cell? ⟨p, 0, none⟩ = some (.slice (some ⟨g1, 0, none⟩) (o + 1) c1) ∧ u.cell? ⟨tb, 0, none⟩ = some (.int .i64 o)) (fun _ => false) (by kernel_rfl) ?_
  have hHeld : (fun u : World => u.cell? ⟨p, 0, none⟩ = some (.slice (some ⟨g1, 0, none⟩) (o + 1) c1) ∧ u.cell? ⟨tb, 0, none⟩ = some (.int .i64 o)) w.drew := ⟨d0, ho⟩
  refine wpAnyJ_take0 (i := 0) (v := ?_) rfl (by kernel_rfl) (by kernel_rfl) (by kernel_rfl) (fun _ _ _ h => h) (Or.inl ⟨by rfl, ?_⟩) ?_
  rotate_left
  focus ((intro w hSw; clear hSw; go_simp); try with_reducible rfl)
  (try simp only [Act.put, List.getElem_toArray, List.getElem_cons_zero, List.getElem_cons_succ, List.setIfInBounds_toArray, List.set_cons_zero, List.set_cons_succ])
  refine wpAnyJ_take0 (i := 1) (v := ?_) rfl (by kernel_rfl) (by kernel_rfl) (by kernel_rfl) (fun _ _ _ h => h) (Or.inl ⟨by rfl, ?_⟩) ?_
  rotate_left
  focus ((intro w hSw; clear hSw; go_simp); try with_reducible rfl)
  (try simp only [Act.put, List.getElem_toArray, List.getElem_cons_zero, List.getElem_cons_succ, List.setIfInBounds_toArray, List.set_cons_zero, List.set_cons_succ])
  refine wpAnyJ_take0 (i := 2) (v := ?_) rfl (by kernel_rfl) (by kernel_rfl) (by kernel_rfl) (fun _ _ _ h => h) (Or.inl ⟨by rfl, ?_⟩) ?_
  rotate_left
  focus ((intro w hSw; clear hSw; go_simp); try with_reducible rfl)
  (try simp only [Act.put, List.getElem_toArray, List.getElem_cons_zero, List.getElem_cons_succ, List.setIfInBounds_toArray, List.set_cons_zero, List.set_cons_succ])
  refine wpAnyJ_take (i := 3) (v := ?_) rfl (by kernel_rfl) (by kernel_rfl) (by kernel_rfl) (by kernel_rfl) (fun _ _ _ h => h) (Or.inl ⟨by rfl, ?_⟩) (by assumption) ?_
  rotate_left
  focus ((intro w hSw; (try dsimp only at hSw); go_simp); try with_reducible rfl)
  (try simp only [Act.put, List.getElem_toArray, List.getElem_cons_zero, List.getElem_cons_succ, List.setIfInBounds_toArray, List.set_cons_zero, List.set_cons_succ])
  refine wpAnyJ_take0 (i := 4) (v := ?_) rfl (by kernel_rfl) (by kernel_rfl) (by kernel_rfl) (fun _ _ _ h => h) (Or.inl ⟨by rfl, ?_⟩) ?_
  rotate_left
  focus ((intro w hSw; clear hSw; go_simp); try with_reducible rfl)
  (try simp only [Act.put, List.getElem_toArray, List.getElem_cons_zero, List.getElem_cons_succ, List.setIfInBounds_toArray, List.set_cons_zero, List.set_cons_succ])
  refine wpAnyJ_take0 (i := 5) (v := ?_) rfl (by kernel_rfl) (by kernel_rfl) (by kernel_rfl) (fun _ _ _ h => h) (Or.inl ⟨by rfl, ?_⟩) ?_
  rotate_left
  focus ((intro w hSw; clear hSw; go_simp); try with_reducible rfl)
  (try simp only [Act.put, List.getElem_toArray, List.getElem_cons_zero, List.getElem_cons_succ, List.setIfInBounds_toArray, List.set_cons_zero, List.set_cons_succ])
  refine wpAnyJ_take0 (i := 6) (v := ?_) rfl (by kernel_rfl) (by kernel_rfl) (by kernel_rfl) (fun _ _ _ h => h) (Or.inl ⟨by rfl, ?_⟩) ?_
  rotate_left
  focus ((intro w hSw; clear hSw; go_simp); try with_reducible rfl)
  (try simp only [Act.put, List.getElem_toArray, List.getElem_cons_zero, List.getElem_cons_succ, List.setIfInBounds_toArray, List.set_cons_zero, List.set_cons_succ])
  refine wpAnyJ_take0 (i := 7) (v := ?_) rfl (by kernel_rfl) (by kernel_rfl) (by kernel_rfl) (fun _ _ _ h => h) (Or.inl ⟨by rfl, ?_⟩) ?_
  rotate_left
  focus ((intro w hSw; clear hSw; go_simp); try with_reducible rfl)
  (try simp only [Act.put, List.getElem_toArray, List.getElem_cons_zero, List.getElem_cons_succ, List.setIfInBounds_toArray, List.set_cons_zero, List.set_cons_succ])
  refine wpAnyJ_take (i := 8) (v := ?_) rfl (by kernel_rfl) (by kernel_rfl) (by kernel_rfl) (by kernel_rfl) (fun _ _ _ h => h) (Or.inl ⟨by rfl, ?_⟩) (by assumption) ?_
  rotate_left
  focus ((intro w hSw; (try dsimp only at hSw); go_simp); try with_reducible rfl)
  (try simp only [Act.put, List.getElem_toArray, List.getElem_cons_zero, List.getElem_cons_succ, List.setIfInBounds_toArray, List.set_cons_zero, List.set_cons_succ])
  refine wpAnyJ_take0 (i := 9) (v := ?_) rfl (by kernel_rfl) (by kernel_rfl) (by kernel_rfl) (fun _ _ _ h => h) (Or.inl ⟨by rfl, ?_⟩) ?_
  rotate_left
  focus ((intro w hSw; clear hSw; go_simp); try with_reducible rfl)
  (try simp only [Act.put, List.getElem_toArray, List.getElem_cons_zero, List.getElem_cons_succ, List.setIfInBounds_toArray, List.set_cons_zero, List.set_cons_succ])
  refine wpAnyJ_done (by kernel_rfl) ?_ _
  refine NoPanic.normal ?_
  go_wp2_with fail
  obtain ⟨q, hq⟩ : ∃ q, w.heap.size = q := ⟨_, rfl⟩
  obtain ⟨wa, hwa⟩ : ∃ u, w.alloc (.cells #[.slice none 0 0, .slice none 0 0, .slice none 0 0] 69) = u := ⟨_, rfl⟩
  rw [hq, hwa] at HST
  rw [hwa] at HP1
  rw [hq] at HD
  rw [hq, hwa] at HF1
  rw [hwa]
  (try rw [hq])
  clear hwa
  have e0 := HP1.out.blk.cell (i := 0) rfl
  have e1 := HP1.out.blk.cell (i := 1) rfl
  have h0 : ow q (.slice none 0 0) (.slice none 0 0) (.slice none 0 0) p = 0 := by have := HD.out p; have := ow_self p (.slice (some ⟨g1, 0, none⟩) (o + 1) c1) (.slice (some ⟨g2, 0, none⟩) (o + 1) c2) v3; omega
  refine (HL.out _ HP1.out.drew).mono ?_
  rintro e w' ⟨rfl, rfl⟩
  clear d0 d1 hck HL ho
  go_wp2_with fail
  replace HST := HST.drew.drew
  refine wp_region_noPanic ?_
  refine wp_region_J (S := fun u : World => u.cell? ⟨p, 0, none⟩ = some (.slice (some ⟨g1, 0, none⟩) (o + 1) c1) ∧ u.cell? ⟨p, 1, none⟩ = some (.slice (some ⟨g2, 0, none⟩) (o + 1) c2)) (fun j => j == 18 || j == 21) (by kernel_rfl) ?_
  obtain ⟨u0, hu0⟩ : ∃ u, wa.drew.drew = u := ⟨_, rfl⟩
  rw [hu0] at HST ⊢
  clear hu0
  have hHeld : (fun u : World => u.cell? ⟨p, 0, none⟩ = some (.slice (some ⟨g1, 0, none⟩) (o + 1) c1) ∧ u.cell? ⟨p, 1, none⟩ = some (.slice (some ⟨g2, 0, none⟩) (o + 1) c2)) u0 := ⟨HST.other e0 h0, HST.other e1 h0⟩
  refine wpAnyJ_take0 (i := 0) (v := ?_) rfl (by kernel_rfl) (by kernel_rfl) (by kernel_rfl) (fun _ _ _ h => h) (Or.inl ⟨by rfl, ?_⟩) ?_
  rotate_left
  focus ((intro w hSw; clear hSw; go_simp); try with_reducible rfl)
  (try simp only [Act.put, List.getElem_toArray, List.getElem_cons_zero, List.getElem_cons_succ, List.setIfInBounds_toArray, List.set_cons_zero, List.set_cons_succ])
  refine wpAnyJ_take0 (i := 1) (v := ?_) rfl (by kernel_rfl) (by kernel_rfl) (by kernel_rfl) (fun _ _ _ h => h) (Or.inl ⟨by rfl, ?_⟩) ?_
  rotate_left
  focus ((intro w hSw; clear hSw; go_simp); try with_reducible rfl)
  (try simp only [Act.put, List.getElem_toArray, List.getElem_cons_zero, List.getElem_cons_succ, List.setIfInBounds_toArray, List.set_cons_zero, List.set_cons_succ])
  refine wpAnyJ_take0 (i := 2) (v := ?_) rfl (by kernel_rfl) (by kernel_rfl) (by kernel_rfl) (fun _ _ _ h => h) (Or.inl ⟨by rfl, ?_⟩) ?_
  rotate_left
  focus ((intro w hSw; clear hSw; go_simp); try with_reducible rfl)
  (try simp only [Act.put, List.getElem_toArray, List.getElem_cons_zero, List.getElem_cons_succ, List.setIfInBounds_toArray, List.set_cons_zero, List.set_cons_succ])
  refine wpAnyJ_take0 (i := 3) (v := ?_) rfl (by kernel_rfl) (by kernel_rfl) (by kernel_rfl) (fun _ _ _ h => h) (Or.inl ⟨by rfl, ?_⟩) ?_
  rotate_left
  focus ((intro w hSw; clear hSw; go_simp); try with_reducible rfl)
  (try simp only [Act.put, List.getElem_toArray, List.getElem_cons_zero, List.getElem_cons_succ, List.setIfInBounds_toArray, List.set_cons_zero, List.set_cons_succ])
  refine wpAnyJ_take0 (i := 4) (v := ?_) rfl (by kernel_rfl) (by kernel_rfl) (by kernel_rfl) (fun _ _ _ h => h) (Or.inl ⟨by rfl, ?_⟩) ?_
  rotate_left
  focus ((intro w hSw; clear hSw; go_simp); try with_reducible rfl)
  (try simp only [Act.put, List.getElem_toArray, List.getElem_cons_zero, List.getElem_cons_succ, List.setIfInBounds_toArray, List.set_cons_zero, List.set_cons_succ])
  refine wpAnyJ_take (i := 5) (v := ?_) rfl (by kernel_rfl) (by kernel_rfl) (by kernel_rfl) (by kernel_rfl) (fun _ _ _ h => h) (Or.inl ⟨by rfl, ?_⟩) (by assumption) ?_
  rotate_left
  focus ((intro w hSw; (try dsimp only at hSw); go_simp); try with_reducible rfl)
  (try simp only [Act.put, List.getElem_toArray, List.getElem_cons_zero, List.getElem_cons_succ, List.setIfInBounds_toArray, List.set_cons_zero, List.set_cons_succ])
  refine wpAnyJ_take0 (i := 6) (v := ?_) rfl (by kernel_rfl) (by kernel_rfl) (by kernel_rfl) (fun _ _ _ h => h) (Or.inl ⟨by rfl, ?_⟩) ?_
  rotate_left
  focus ((intro w hSw; clear hSw; go_simp); try with_reducible rfl)
  (try simp only [Act.put, List.getElem_toArray, List.getElem_cons_zero, List.getElem_cons_succ, List.setIfInBounds_toArray, List.set_cons_zero, List.set_cons_succ])
  refine wpAnyJ_take0 (i := 7) (v := ?_) rfl (by kernel_rfl) (by kernel_rfl) (by kernel_rfl) (fun _ _ _ h => h) (Or.inl ⟨by rfl, ?_⟩) ?_
  rotate_left
  focus ((intro w hSw; clear hSw; go_simp); try with_reducible rfl)
  (try simp only [Act.put, List.getElem_toArray, List.getElem_cons_zero, List.getElem_cons_succ, List.setIfInBounds_toArray, List.set_cons_zero, List.set_cons_succ])
  refine wpAnyJ_take0 (i := 9) (v := ?_) rfl (by kernel_rfl) (by kernel_rfl) (by kernel_rfl) (fun _ _ _ h => h) (Or.inl ⟨by rfl, ?_⟩) ?_
  rotate_left
  focus ((intro w hSw; clear hSw; go_simp); try with_reducible rfl)
  (try simp only [Act.put, List.getElem_toArray, List.getElem_cons_zero, List.getElem_cons_succ, List.setIfInBounds_toArray, List.set_cons_zero, List.set_cons_succ])
  refine wpAnyJ_take0 (i := 10) (v := ?_) rfl (by kernel_rfl) (by kernel_rfl) (by kernel_rfl) (fun _ _ _ h => h) (Or.inl ⟨by rfl, ?_⟩) ?_
  rotate_left
  focus ((intro w hSw; clear hSw; go_simp); try with_reducible rfl)
  (try simp only [Act.put, List.getElem_toArray, List.getElem_cons_zero, List.getElem_cons_succ, List.setIfInBounds_toArray, List.set_cons_zero, List.set_cons_succ])
  refine wpAnyJ_take0 (i := 11) (v := ?_) rfl (by kernel_rfl) (by kernel_rfl) (by kernel_rfl) (fun _ _ _ h => h) (Or.inl ⟨by rfl, ?_⟩) ?_
  rotate_left
  focus ((intro w hSw; clear hSw; go_simp); try with_reducible rfl)
  (try simp only [Act.put, List.getElem_toArray, List.getElem_cons_zero, List.getElem_cons_succ, List.setIfInBounds_toArray, List.set_cons_zero, List.set_cons_succ])
  refine wpAnyJ_take (i := 12) (v := ?_) rfl (by kernel_rfl) (by kernel_rfl) (by kernel_rfl) (by kernel_rfl) (fun _ _ _ h => h) (Or.inl ⟨by rfl, ?_⟩) (by assumption) ?_
  rotate_left
  focus ((intro w hSw; (try dsimp only at hSw); go_simp); try with_reducible rfl)
  (try simp only [Act.put, List.getElem_toArray, List.getElem_cons_zero, List.getElem_cons_succ, List.setIfInBounds_toArray, List.set_cons_zero, List.set_cons_succ])
  refine wpAnyJ_take0 (i := 13) (v := ?_) rfl (by kernel_rfl) (by kernel_rfl) (by kernel_rfl) (fun _ _ _ h => h) (Or.inl ⟨by rfl, ?_⟩) ?_
  rotate_left
  focus ((intro w hSw; clear hSw; go_simp); try with_reducible rfl)
  (try simp only [Act.put, List.getElem_toArray, List.getElem_cons_zero, List.getElem_cons_succ, List.setIfInBounds_toArray, List.set_cons_zero, List.set_cons_succ])
  refine wpAnyJ_take0 (i := 14) (v := ?_) rfl (by kernel_rfl) (by kernel_rfl) (by kernel_rfl) (fun _ _ _ h => h) (Or.inl ⟨by rfl, ?_⟩) ?_
  rotate_left
  focus ((intro w hSw; clear hSw; go_simp); try with_reducible rfl)
  (try simp only [Act.put, List.getElem_toArray, List.getElem_cons_zero, List.getElem_cons_succ, List.setIfInBounds_toArray, List.set_cons_zero, List.set_cons_succ])
  refine wpAnyJ_ready (rs := [8]) (by kernel_rfl) (by simp) ?_
  refine AllReadyJ.cons rfl (fun KK hKK => ?_) AllReadyJ.nil
  go_simp
  go_at_call 45
  refine (HST.cln1 (L := K.drop m) ((HP1.out.frame HST.fr HD.out).tail1 m) (by rw [List.length_drop, HKL.out]) (fun h => by cases h) (by rw [List.length_drop, HKL.out]; omega)).mono ?_
  rintro e u1 ⟨ra1, rc1, rfl, HST2⟩
  clear HST
  have HST := HST2
  clear HST2
  have hH2 : (fun u : World => u.cell? ⟨p, 0, none⟩ = some (.slice (some ⟨g1, 0, none⟩) (o + 1) c1) ∧ u.cell? ⟨p, 1, none⟩ = some (.slice (some ⟨g2, 0, none⟩) (o + 1) c2)) u1 := ⟨HST.other e0 h0, HST.other e1 h0⟩
  refine hKK.out _ _ (fun _ _ => hH2) ?_
  clear hKK KK
  clear hHeld
  have hHeld := hH2
  clear hH2 u0
  revert u1
  intro u0 HST hHeld
  (try simp only [Act.put, List.getElem_toArray, List.getElem_cons_zero, List.getElem_cons_succ, List.setIfInBounds_toArray, List.set_cons_zero, List.set_cons_succ])
  refine wpAnyJ_ready (rs := [15]) (by kernel_rfl) (by simp) ?_
  refine AllReadyJ.cons rfl (fun KK hKK => ?_) AllReadyJ.nil
  go_simp
  go_at_call 46
  refine (HST.cln2 (L := V.drop m) ((HP1.out.frame HST.fr HD.out).tail2 m) (by rw [List.length_drop, HVL.out]) (fun h => by cases h) (by rw [List.length_drop, HVL.out]; omega)).mono ?_
  rintro e u1 ⟨ra2, rc2, rfl, HST2⟩
  clear HST
  have HST := HST2
  clear HST2
  have hH2 : (fun u : World => u.cell? ⟨p, 0, none⟩ = some (.slice (some ⟨g1, 0, none⟩) (o + 1) c1) ∧ u.cell? ⟨p, 1, none⟩ = some (.slice (some ⟨g2, 0, none⟩) (o + 1) c2)) u1 := ⟨HST.other e0 h0, HST.other e1 h0⟩
  refine hKK.out _ _ (fun _ _ => hH2) ?_
  clear hKK KK
  clear hHeld
  have hHeld := hH2
  clear hH2 u0
  revert u1
  intro u0 HST hHeld
  (try simp only [Act.put, List.getElem_toArray, List.getElem_cons_zero, List.getElem_cons_succ, List.setIfInBounds_toArray, List.set_cons_zero, List.set_cons_succ])
  refine wpAnyJ_take0 (i := 16) (v := ?_) rfl (by kernel_rfl) (by kernel_rfl) (by kernel_rfl) (fun _ _ _ h => h) (Or.inl ⟨by rfl, ?_⟩) ?_
  rotate_left
  focus ((intro w hSw; clear hSw; go_simp); try with_reducible rfl)
  (try simp only [Act.put, List.getElem_toArray, List.getElem_cons_zero, List.getElem_cons_succ, List.setIfInBounds_toArray, List.set_cons_zero, List.set_cons_succ])
  refine wpAnyJ_take0 (i := 17) (v := ?_) rfl (by kernel_rfl) (by kernel_rfl) (by kernel_rfl) (fun _ _ _ h => h) (Or.inl ⟨by rfl, ?_⟩) ?_
  rotate_left
  focus ((intro w hSw; clear hSw; go_simp); try with_reducible rfl)
  (try simp only [Act.put, List.getElem_toArray, List.getElem_cons_zero, List.getElem_cons_succ, List.setIfInBounds_toArray, List.set_cons_zero, List.set_cons_succ])
  refine wpAnyJ_ready (rs := [18]) (by kernel_rfl) (by simp) ?_
  refine AllReadyJ.cons rfl (fun KK hKK => ?_) AllReadyJ.nil
  have hz1 := HST.cell.2.2.2 0
  have hz2 := HST.cell.1
  go_simp
  clear hz1 hz2
  replace HST := HST.put0 (.slice ra1 (o + 1 - m) rc1)
  refine hKK.out _ _ (fun h => absurd h (by decide)) ?_
  clear hKK KK
  generalize u0.setCell ⟨q, 0, none⟩ (.slice ra1 (o + 1 - m) rc1) = u1 at HST ⊢
  (try clear hHeld)
  clear u0
  revert u1
  intro u0 HST
  (try simp only [Act.put, List.getElem_toArray, List.getElem_cons_zero, List.getElem_cons_succ, List.setIfInBounds_toArray, List.set_cons_zero, List.set_cons_succ])
  refine wpAnyJ_take0 (i := 19) (v := ?_) rfl (by kernel_rfl) (by kernel_rfl) (by kernel_rfl) (fun _ _ _ h => h) (Or.inl ⟨by rfl, ?_⟩) ?_
  rotate_left
  focus ((intro w hSw; clear hSw; go_simp); try with_reducible rfl)
  (try simp only [Act.put, List.getElem_toArray, List.getElem_cons_zero, List.getElem_cons_succ, List.setIfInBounds_toArray, List.set_cons_zero, List.set_cons_succ])
  refine wpAnyJ_take0 (i := 20) (v := ?_) rfl (by kernel_rfl) (by kernel_rfl) (by kernel_rfl) (fun _ _ _ h => h) (Or.inl ⟨by rfl, ?_⟩) ?_
  rotate_left
  focus ((intro w hSw; clear hSw; go_simp); try with_reducible rfl)
  (try simp only [Act.put, List.getElem_toArray, List.getElem_cons_zero, List.getElem_cons_succ, List.setIfInBounds_toArray, List.set_cons_zero, List.set_cons_succ])
  refine wpAnyJ_ready (rs := [21]) (by kernel_rfl) (by simp) ?_
  refine AllReadyJ.cons rfl (fun KK hKK => ?_) AllReadyJ.nil
  have hz1 := HST.cell.2.2.2 1
  have hz2 := HST.cell.2.1
  go_simp
  clear hz1 hz2
  replace HST := HST.put1 (.slice ra2 (o + 1 - m) rc2)
  refine hKK.out _ _ (fun h => absurd h (by decide)) ?_
  clear hKK KK
  generalize u0.setCell ⟨q, 1, none⟩ (.slice ra2 (o + 1 - m) rc2) = u1 at HST ⊢
  (try clear hHeld)
  clear u0
  revert u1
  intro u0 HST
  (try simp only [Act.put, List.getElem_toArray, List.getElem_cons_zero, List.getElem_cons_succ, List.setIfInBounds_toArray, List.set_cons_zero, List.set_cons_succ])
  refine wpAnyJ_done (by kernel_rfl) ?_ _
  refine NoPanic.normal ?_
  have HS := Lib.hid HST
  have HPu := (HP1.out.frame HST.fr HD.out)
  have k0 := HPu.blk.cell (i := 0) rfl
  have k1 := HPu.blk.cell (i := 1) rfl
  have k2 := HPu.blk.free 0
  have k3 := HPu.blk.free 1
  have HPU := Lib.hid HPu
  clear HST HPu
  go_wp2_with fail
  rw [← HQ.out]
  have hPU := HPU.out
  have hS := HS.out
  have hone := HO1.out
  have ft := hS.fr.frame (fun k => ow p (.slice (some ⟨g1, 0, none⟩) (o + 1) c1) (.slice (some ⟨g2, 0, none⟩) (o + 1) c2) v3 k) HD.out HP1.out.hi
  rw [HKL.out, HVL.out] at hone
  obtain ⟨n1, f1⟩ := hPU.cut2 (m := m) hone (by rw [HVL.out]; omega) ⟨g2, rfl⟩
  have hone2 := f1.one
  obtain ⟨n2, f2⟩ := n1.cut1 (m := m) hone2 (by rw [HKL.out]; omega) ⟨g1, rfl⟩
  have f3 := f1.trans f2
  have hdd : ∀ k, ow p (.slice (some ⟨g1, 0, none⟩) (o + 1) c1) (.slice (some ⟨g2, 0, none⟩) (o + 1) c2) v3 k + ow q (.slice ra1 (o + 1 - m) rc1) (.slice ra2 (o + 1 - m) rc2) (.slice none 0 0) k ≤ 1 := fun k => by have := ft.one k; omega
  have f4 := f3.frame (fun k => ow q (.slice ra1 (o + 1 - m) rc1) (.slice ra2 (o + 1 - m) rc2) (.slice none 0 0) k) hdd hS.end.hi
  have f5 := HF1.out.trans (ft.trans (f4.congr (fun k => Nat.add_comm _ _) (fun k => rfl)))
  refine ⟨q, key, .slice (some ⟨g1, 0, none⟩) m m, .slice (some ⟨g2, 0, none⟩) m m, .slice ra1 (o + 1 - m) rc1, .slice ra2 (o + 1 - m) rc2, by rw [HM.out]; exact HKEY.out, by rfl, ?_, ?_, ?_⟩
  · rw [HM.out]; exact n2
  · rw [HM.out]; exact hS.end.frame f3 hdd
  · rw [HKL.out, HVL.out]; exact f5
set_option maxRecDepth 100000 in
set_option maxHeartbeats 16000000 in
theorem split_fork {w : World} {p tb o : Nat} {v1 v2 v3 : Value} {K : List ByteArray} {C : List Nat} (h : NodeAt w p v1 v2 v3 K [] C) (h1 : ∀ k, ow p v1 v2 v3 k ≤ 1) (ho : w.cell? ⟨tb, 0, none⟩ = some (.int .i64 o)) (hK : K.length = o + 1) (hV : C.length = o + 2) (ho3 : 3 ≤ o) (ho2 : o ≤ 64) :
    Calls Try.prog 31 #[.pointer (some ⟨tb, 0, none⟩), .pointer (some ⟨p, 0, none⟩)] w (SplitFork o p v1 v2 v3 K C w) := by
  obtain ⟨a1, c1, e1, hrow⟩ := h.str
  obtain ⟨a2, c2, e2, hlc2, _⟩ := h.r3.form
  rw [List.length_map] at e2 hlc2
  subst e1 e2
  have hlc1 : K.length ≤ c1 := by
    obtain ⟨a9, c9, e9, h9, _⟩ := h.r1.form
    injection e9 with _ _ e9
    subst e9
    simpa using h9
  have hcm1 : c1 ≤ 9223372036854775807 ∧ c2 ≤ 9223372036854775807 := by
    obtain ⟨a9, c9, e9, _, h9, _⟩ := h.r1.form
    obtain ⟨a8, c8, e8, _, h8, _⟩ := h.r3.form
    injection e9 with _ _ e9
    injection e8 with _ _ e8
    subst e9 e8
    exact ⟨h9, h8⟩
  obtain ⟨g1, rfl⟩ := h.r1.block (by rw [List.length_map]; omega)
  obtain ⟨g2, rfl⟩ := h.r3.block (by rw [List.length_map]; omega)
  have d0 := h.blk.cell (i := 0) rfl
  have d1 := h.blk.cell (i := 2) rfl
  obtain ⟨m, hm⟩ : ∃ m, (o + 1) / 2 = m := ⟨_, rfl⟩
  have hmI : ((o : Int) + 1) / 2 = m := by omega
  have hm1 : m < o + 1 := by omega
  have hm2 : m + 1 < o + 1 := by omega
  obtain ⟨key, hkey⟩ : ∃ key, K[m]? = some key := get_some (by omega)
  obtain ⟨gg, hgg, _, hck, _⟩ := h.r1.cell (i := m) (x := .string key) (by rw [List.getElem?_map, hkey]; rfl)
  injection hgg with hgg
  injection hgg with hgg _
  subst hgg
  have HKEY := Lib.hid hkey
  obtain ⟨HP1, HST, HD, HF1⟩ := node_new h h1
  have HP1 := Lib.hid HP1
  have HD := Lib.hid HD
  have HF1 := Lib.hid HF1
  have HL := Lib.hid (fun u (hu : NodeAt u p (.slice (some ⟨g1, 0, none⟩) K.length c1) v2 (.slice (some ⟨g2, 0, none⟩) C.length c2) K [] C) => (show Calls Try.prog 38 #[.pointer (some ⟨p, 0, none⟩)] u fun e w' => e = .returned (.bool false) ∧ u = w' from (by have := leaf_any hu; rwa [show C.isEmpty = false from by cases C with | nil => simp at hV | cons a l => rfl] at this)))
  obtain ⟨Q, hQ⟩ : ∃ Q, SplitFork o p (.slice (some ⟨g1, 0, none⟩) K.length c1) v2 (.slice (some ⟨g2, 0, none⟩) C.length c2) K C w = Q := ⟨_, rfl⟩
  have HQ := Lib.hid hQ
  rw [hQ]
  have HKL := Lib.hid hK
  have HVL := Lib.hid hV
  have HH := Lib.hid h
  have HO1 := Lib.hid h1
  have HM := Lib.hid hm
  have hlp := h.blk.lt
  have hltb := World.block_lt_of_cell? w _ ho
  have hlg1 := World.block_lt_of_cell? w _ hck
  rw [hK] at d0 hlc1 HP1 HD HF1 HL
  rw [hV] at d1 hlc2 HP1 HD HF1 HL
  have hcm3 : ¬ c1 = m + 1 := by omega
  have hcm4 : ¬ c2 = m + 1 := by omega
  have hcm5 : (c1 : Int) ≤ 9223372036854775807 := by omega
  have hcm6 : (c2 : Int) ≤ 9223372036854775807 := by omega
  have hcm7 : m + 1 ≤ c1 := by omega
  have hcm8 : m + 1 ≤ c2 := by omega
  have hcm9 : ¬ ((o : Int) + 1 < (m : Int) + 1) := by omega
  have hcm10 : (m : Int) + 1 ≤ (o : Int) + 1 := by omega
  have hcm11 : ¬ ((o : Int) + 2 < (m : Int) + 1) := by omega
  have hcm12 : (m : Int) + 1 ≤ (o : Int) + 2 := by omega
  have hcm13 : IntKind.i64.wrap ((m : Int) + 1) = (m : Int) + 1 := IntWalk.i64_in _ (by omega)
  have hcm14 : (0 : Int) ≤ (m : Int) + 1 := by omega
  have hcm15 : ((m : Int) + 1).toNat = m + 1 := by omega
  have hcm16 : m ≤ o := by omega
  clear h h1 hrow hkey hQ hK hV hm
  go_enter Try.func31, Try.ntmps31
  go_wp2_with fail
  refine wp_region_noPanic ?_
  refine wp_region_J (S := fun u : World => u.cell? ⟨p, 0, none⟩ = some (.slice (some ⟨g1, 0, none⟩) (o + 1) c1) ∧ u.cell? ⟨tb, 0, none⟩ = some (.int .i64 o)) (fun _ => false) (by kernel_rfl) ?_
  have hHeld : (fun u : World => u.cell? ⟨p, 0, none⟩ = some (.slice (some ⟨g1, 0, none⟩) (o + 1) c1) ∧ u.cell? ⟨tb, 0, none⟩ = some (.int .i64 o)) w.drew := ⟨d0, ho⟩
  refine wpAnyJ_take0 (i := 0) (v := ?_) rfl (by kernel_rfl) (by kernel_rfl) (by kernel_rfl) (fun _ _ _ h => h) (Or.inl ⟨by rfl, ?_⟩) ?_
  rotate_left
  focus ((intro w hSw; clear hSw; go_simp); try with_reducible rfl)
  (try simp only [Act.put, List.getElem_toArray, List.getElem_cons_zero, List.getElem_cons_succ, List.setIfInBounds_toArray, List.set_cons_zero, List.set_cons_succ])
  refine wpAnyJ_take0 (i := 1) (v := ?_) rfl (by kernel_rfl) (by kernel_rfl) (by kernel_rfl) (fun _ _ _ h => h) (Or.inl ⟨by rfl, ?_⟩) ?_
  rotate_left
  focus ((intro w hSw; clear hSw; go_simp); try with_reducible rfl)
  (try simp only [Act.put, List.getElem_toArray, List.getElem_cons_zero, List.getElem_cons_succ, List.setIfInBounds_toArray, List.set_cons_zero, List.set_cons_succ])
  refine wpAnyJ_take0 (i := 2) (v := ?_) rfl (by kernel_rfl) (by kernel_rfl) (by kernel_rfl) (fun _ _ _ h => h) (Or.inl ⟨by rfl, ?_⟩) ?_
  rotate_left
  focus ((intro w hSw; clear hSw; go_simp); try with_reducible rfl)
  (try simp only [Act.put, List.getElem_toArray, List.getElem_cons_zero, List.getElem_cons_succ, List.setIfInBounds_toArray, List.set_cons_zero, List.set_cons_succ])
  refine wpAnyJ_take (i := 3) (v := ?_) rfl (by kernel_rfl) (by kernel_rfl) (by kernel_rfl) (by kernel_rfl) (fun _ _ _ h => h) (Or.inl ⟨by rfl, ?_⟩) (by assumption) ?_
  rotate_left
  focus ((intro w hSw; (try dsimp only at hSw); go_simp); try with_reducible rfl)
  (try simp only [Act.put, List.getElem_toArray, List.getElem_cons_zero, List.getElem_cons_succ, List.setIfInBounds_toArray, List.set_cons_zero, List.set_cons_succ])
  refine wpAnyJ_take0 (i := 4) (v := ?_) rfl (by kernel_rfl) (by kernel_rfl) (by kernel_rfl) (fun _ _ _ h => h) (Or.inl ⟨by rfl, ?_⟩) ?_
  rotate_left
  focus ((intro w hSw; clear hSw; go_simp); try with_reducible rfl)
  (try simp only [Act.put, List.getElem_toArray, List.getElem_cons_zero, List.getElem_cons_succ, List.setIfInBounds_toArray, List.set_cons_zero, List.set_cons_succ])
  refine wpAnyJ_take0 (i := 5) (v := ?_) rfl (by kernel_rfl) (by kernel_rfl) (by kernel_rfl) (fun _ _ _ h => h) (Or.inl ⟨by rfl, ?_⟩) ?_
  rotate_left
  focus ((intro w hSw; clear hSw; go_simp); try with_reducible rfl)
  (try simp only [Act.put, List.getElem_toArray, List.getElem_cons_zero, List.getElem_cons_succ, List.setIfInBounds_toArray, List.set_cons_zero, List.set_cons_succ])
  refine wpAnyJ_take0 (i := 6) (v := ?_) rfl (by kernel_rfl) (by kernel_rfl) (by kernel_rfl) (fun _ _ _ h => h) (Or.inl ⟨by rfl, ?_⟩) ?_
  rotate_left
  focus ((intro w hSw; clear hSw; go_simp); try with_reducible rfl)
  (try simp only [Act.put, List.getElem_toArray, List.getElem_cons_zero, List.getElem_cons_succ, List.setIfInBounds_toArray, List.set_cons_zero, List.set_cons_succ])
  refine wpAnyJ_take0 (i := 7) (v := ?_) rfl (by kernel_rfl) (by kernel_rfl) (by kernel_rfl) (fun _ _ _ h => h) (Or.inl ⟨by rfl, ?_⟩) ?_
  rotate_left
  focus ((intro w hSw; clear hSw; go_simp); try with_reducible rfl)
  (try simp only [Act.put, List.getElem_toArray, List.getElem_cons_zero, List.getElem_cons_succ, List.setIfInBounds_toArray, List.set_cons_zero, List.set_cons_succ])
  refine wpAnyJ_take (i := 8) (v := ?_) rfl (by kernel_rfl) (by kernel_rfl) (by kernel_rfl) (by kernel_rfl) (fun _ _ _ h => h) (Or.inl ⟨by rfl, ?_⟩) (by assumption) ?_
  rotate_left
  focus ((intro w hSw; (try dsimp only at hSw); go_simp); try with_reducible rfl)
  (try simp only [Act.put, List.getElem_toArray, List.getElem_cons_zero, List.getElem_cons_succ, List.setIfInBounds_toArray, List.set_cons_zero, List.set_cons_succ])
  refine wpAnyJ_take0 (i := 9) (v := ?_) rfl (by kernel_rfl) (by kernel_rfl) (by kernel_rfl) (fun _ _ _ h => h) (Or.inl ⟨by rfl, ?_⟩) ?_
  rotate_left
  focus ((intro w hSw; clear hSw; go_simp); try with_reducible rfl)
  (try simp only [Act.put, List.getElem_toArray, List.getElem_cons_zero, List.getElem_cons_succ, List.setIfInBounds_toArray, List.set_cons_zero, List.set_cons_succ])
  refine wpAnyJ_done (by kernel_rfl) ?_ _
  refine NoPanic.normal ?_
  go_wp2_with fail
  obtain ⟨q, hq⟩ : ∃ q, w.heap.size = q := ⟨_, rfl⟩
  obtain ⟨wa, hwa⟩ : ∃ u, w.alloc (.cells #[.slice none 0 0, .slice none 0 0, .slice none 0 0] 69) = u := ⟨_, rfl⟩
  rw [hq, hwa] at HST
  rw [hwa] at HP1
  rw [hq] at HD
  rw [hq, hwa] at HF1
  rw [hwa]
  (try rw [hq])
  clear hwa
  have e0 := HP1.out.blk.cell (i := 0) rfl
  have e1 := HP1.out.blk.cell (i := 2) rfl
  have h0 : ow q (.slice none 0 0) (.slice none 0 0) (.slice none 0 0) p = 0 := by have := HD.out p; have := ow_self p (.slice (some ⟨g1, 0, none⟩) (o + 1) c1) v2 (.slice (some ⟨g2, 0, none⟩) (o + 2) c2); omega
  refine (HL.out _ HP1.out.drew).mono ?_
  rintro e w' ⟨rfl, rfl⟩
  clear d0 d1 hck HL ho
  go_wp2_with fail
  replace HST := HST.drew.drew
  refine wp_region_noPanic ?_
  refine wp_region_J (S := fun u : World => u.cell? ⟨p, 0, none⟩ = some (.slice (some ⟨g1, 0, none⟩) (o + 1) c1) ∧ u.cell? ⟨p, 2, none⟩ = some (.slice (some ⟨g2, 0, none⟩) (o + 2) c2)) (fun j => j == 20 || j == 23) (by kernel_rfl) ?_
  obtain ⟨u0, hu0⟩ : ∃ u, wa.drew.drew = u := ⟨_, rfl⟩
  rw [hu0] at HST ⊢
  clear hu0
  have hHeld : (fun u : World => u.cell? ⟨p, 0, none⟩ = some (.slice (some ⟨g1, 0, none⟩) (o + 1) c1) ∧ u.cell? ⟨p, 2, none⟩ = some (.slice (some ⟨g2, 0, none⟩) (o + 2) c2)) u0 := ⟨HST.other e0 h0, HST.other e1 h0⟩
  refine wpAnyJ_take0 (i := 0) (v := ?_) rfl (by kernel_rfl) (by kernel_rfl) (by kernel_rfl) (fun _ _ _ h => h) (Or.inl ⟨by rfl, ?_⟩) ?_
  rotate_left
  focus ((intro w hSw; clear hSw; go_simp); try with_reducible rfl)
  (try simp only [Act.put, List.getElem_toArray, List.getElem_cons_zero, List.getElem_cons_succ, List.setIfInBounds_toArray, List.set_cons_zero, List.set_cons_succ])
  refine wpAnyJ_take0 (i := 1) (v := ?_) rfl (by kernel_rfl) (by kernel_rfl) (by kernel_rfl) (fun _ _ _ h => h) (Or.inl ⟨by rfl, ?_⟩) ?_
  rotate_left
  focus ((intro w hSw; clear hSw; go_simp); try with_reducible rfl)
  (try simp only [Act.put, List.getElem_toArray, List.getElem_cons_zero, List.getElem_cons_succ, List.setIfInBounds_toArray, List.set_cons_zero, List.set_cons_succ])
  refine wpAnyJ_take0 (i := 2) (v := ?_) rfl (by kernel_rfl) (by kernel_rfl) (by kernel_rfl) (fun _ _ _ h => h) (Or.inl ⟨by rfl, ?_⟩) ?_
  rotate_left
  focus ((intro w hSw; clear hSw; go_simp); try with_reducible rfl)
  (try simp only [Act.put, List.getElem_toArray, List.getElem_cons_zero, List.getElem_cons_succ, List.setIfInBounds_toArray, List.set_cons_zero, List.set_cons_succ])
  refine wpAnyJ_take0 (i := 3) (v := ?_) rfl (by kernel_rfl) (by kernel_rfl) (by kernel_rfl) (fun _ _ _ h => h) (Or.inl ⟨by rfl, ?_⟩) ?_
  rotate_left
  focus ((intro w hSw; clear hSw; go_simp); try with_reducible rfl)
  (try simp only [Act.put, List.getElem_toArray, List.getElem_cons_zero, List.getElem_cons_succ, List.setIfInBounds_toArray, List.set_cons_zero, List.set_cons_succ])
  refine wpAnyJ_take0 (i := 4) (v := ?_) rfl (by kernel_rfl) (by kernel_rfl) (by kernel_rfl) (fun _ _ _ h => h) (Or.inl ⟨by rfl, ?_⟩) ?_
  rotate_left
  focus ((intro w hSw; clear hSw; go_simp); try with_reducible rfl)
  (try simp only [Act.put, List.getElem_toArray, List.getElem_cons_zero, List.getElem_cons_succ, List.setIfInBounds_toArray, List.set_cons_zero, List.set_cons_succ])
  refine wpAnyJ_take (i := 5) (v := ?_) rfl (by kernel_rfl) (by kernel_rfl) (by kernel_rfl) (by kernel_rfl) (fun _ _ _ h => h) (Or.inl ⟨by rfl, ?_⟩) (by assumption) ?_
  rotate_left
  focus ((intro w hSw; (try dsimp only at hSw); go_simp); try with_reducible rfl)
  (try simp only [Act.put, List.getElem_toArray, List.getElem_cons_zero, List.getElem_cons_succ, List.setIfInBounds_toArray, List.set_cons_zero, List.set_cons_succ])
  refine wpAnyJ_take0 (i := 6) (v := ?_) rfl (by kernel_rfl) (by kernel_rfl) (by kernel_rfl) (fun _ _ _ h => h) (Or.inl ⟨by rfl, ?_⟩) ?_
  rotate_left
  focus ((intro w hSw; clear hSw; go_simp); try with_reducible rfl)
  (try simp only [Act.put, List.getElem_toArray, List.getElem_cons_zero, List.getElem_cons_succ, List.setIfInBounds_toArray, List.set_cons_zero, List.set_cons_succ])
  refine wpAnyJ_take0 (i := 7) (v := ?_) rfl (by kernel_rfl) (by kernel_rfl) (by kernel_rfl) (fun _ _ _ h => h) (Or.inl ⟨by rfl, ?_⟩) ?_
  rotate_left
  focus ((intro w hSw; clear hSw; go_simp); try with_reducible rfl)
  (try simp only [Act.put, List.getElem_toArray, List.getElem_cons_zero, List.getElem_cons_succ, List.setIfInBounds_toArray, List.set_cons_zero, List.set_cons_succ])
  refine wpAnyJ_take0 (i := 8) (v := ?_) rfl (by kernel_rfl) (by kernel_rfl) (by kernel_rfl) (fun _ _ _ h => h) (Or.inl ⟨by rfl, ?_⟩) ?_
  rotate_left
  focus ((intro w hSw; clear hSw; go_simp); try with_reducible rfl)
  (try simp only [Act.put, List.getElem_toArray, List.getElem_cons_zero, List.getElem_cons_succ, List.setIfInBounds_toArray, List.set_cons_zero, List.set_cons_succ])
  refine wpAnyJ_take0 (i := 10) (v := ?_) rfl (by kernel_rfl) (by kernel_rfl) (by kernel_rfl) (fun _ _ _ h => h) (Or.inl ⟨by rfl, ?_⟩) ?_
  rotate_left
  focus ((intro w hSw; clear hSw; go_simp); try with_reducible rfl)
  (try simp only [Act.put, List.getElem_toArray, List.getElem_cons_zero, List.getElem_cons_succ, List.setIfInBounds_toArray, List.set_cons_zero, List.set_cons_succ])
  refine wpAnyJ_take0 (i := 11) (v := ?_) rfl (by kernel_rfl) (by kernel_rfl) (by kernel_rfl) (fun _ _ _ h => h) (Or.inl ⟨by rfl, ?_⟩) ?_
  rotate_left
  focus ((intro w hSw; clear hSw; go_simp); try with_reducible rfl)
  (try simp only [Act.put, List.getElem_toArray, List.getElem_cons_zero, List.getElem_cons_succ, List.setIfInBounds_toArray, List.set_cons_zero, List.set_cons_succ])
  refine wpAnyJ_take0 (i := 12) (v := ?_) rfl (by kernel_rfl) (by kernel_rfl) (by kernel_rfl) (fun _ _ _ h => h) (Or.inl ⟨by rfl, ?_⟩) ?_
  rotate_left
  focus ((intro w hSw; clear hSw; go_simp); try with_reducible rfl)
  (try simp only [Act.put, List.getElem_toArray, List.getElem_cons_zero, List.getElem_cons_succ, List.setIfInBounds_toArray, List.set_cons_zero, List.set_cons_succ])
  refine wpAnyJ_take (i := 13) (v := ?_) rfl (by kernel_rfl) (by kernel_rfl) (by kernel_rfl) (by kernel_rfl) (fun _ _ _ h => h) (Or.inl ⟨by rfl, ?_⟩) (by assumption) ?_
  rotate_left
  focus ((intro w hSw; (try dsimp only at hSw); go_simp); try with_reducible rfl)
  (try simp only [Act.put, List.getElem_toArray, List.getElem_cons_zero, List.getElem_cons_succ, List.setIfInBounds_toArray, List.set_cons_zero, List.set_cons_succ])
  refine wpAnyJ_take0 (i := 14) (v := ?_) rfl (by kernel_rfl) (by kernel_rfl) (by kernel_rfl) (fun _ _ _ h => h) (Or.inl ⟨by rfl, ?_⟩) ?_
  rotate_left
  focus ((intro w hSw; clear hSw; go_simp); try with_reducible rfl)
  (try simp only [Act.put, List.getElem_toArray, List.getElem_cons_zero, List.getElem_cons_succ, List.setIfInBounds_toArray, List.set_cons_zero, List.set_cons_succ])
  refine wpAnyJ_take0 (i := 15) (v := ?_) rfl (by kernel_rfl) (by kernel_rfl) (by kernel_rfl) (fun _ _ _ h => h) (Or.inl ⟨by rfl, ?_⟩) ?_
  rotate_left
  focus ((intro w hSw; clear hSw; go_simp); try with_reducible rfl)
  (try simp only [Act.put, List.getElem_toArray, List.getElem_cons_zero, List.getElem_cons_succ, List.setIfInBounds_toArray, List.set_cons_zero, List.set_cons_succ])
  refine wpAnyJ_take0 (i := 16) (v := ?_) rfl (by kernel_rfl) (by kernel_rfl) (by kernel_rfl) (fun _ _ _ h => h) (Or.inl ⟨by rfl, ?_⟩) ?_
  rotate_left
  focus ((intro w hSw; clear hSw; go_simp); try with_reducible rfl)
  (try simp only [Act.put, List.getElem_toArray, List.getElem_cons_zero, List.getElem_cons_succ, List.setIfInBounds_toArray, List.set_cons_zero, List.set_cons_succ])
  refine wpAnyJ_ready (rs := [9]) (by kernel_rfl) (by simp) ?_
  refine AllReadyJ.cons rfl (fun KK hKK => ?_) AllReadyJ.nil
  go_simp
  go_at_call 45
  refine (HST.cln1 (L := K.drop (m + 1)) ((HP1.out.frame HST.fr HD.out).tail1 (m + 1)) (by rw [List.length_drop, HKL.out]; omega) (fun h => by cases h) (by rw [List.length_drop, HKL.out]; omega)).mono ?_
  rintro e u1 ⟨ra1, rc1, rfl, HST2⟩
  clear HST
  have HST := HST2
  clear HST2
  have hH2 : (fun u : World => u.cell? ⟨p, 0, none⟩ = some (.slice (some ⟨g1, 0, none⟩) (o + 1) c1) ∧ u.cell? ⟨p, 2, none⟩ = some (.slice (some ⟨g2, 0, none⟩) (o + 2) c2)) u1 := ⟨HST.other e0 h0, HST.other e1 h0⟩
  refine hKK.out _ _ (fun _ _ => hH2) ?_
  clear hKK KK
  clear hHeld
  have hHeld := hH2
  clear hH2 u0
  revert u1
  intro u0 HST hHeld
  (try simp only [Act.put, List.getElem_toArray, List.getElem_cons_zero, List.getElem_cons_succ, List.setIfInBounds_toArray, List.set_cons_zero, List.set_cons_succ])
  refine wpAnyJ_ready (rs := [17]) (by kernel_rfl) (by simp) ?_
  refine AllReadyJ.cons rfl (fun KK hKK => ?_) AllReadyJ.nil
  go_simp
  go_at_call 47
  refine (HST.cln3 (L := C.drop (m + 1)) ((HP1.out.frame HST.fr HD.out).tail3 (m + 1)) (by rw [List.length_drop, HVL.out]; omega) (fun h => by cases h) (by rw [List.length_drop, HVL.out]; omega)).mono ?_
  rintro e u1 ⟨ra2, rc2, rfl, HST2⟩
  clear HST
  have HST := HST2
  clear HST2
  have hH2 : (fun u : World => u.cell? ⟨p, 0, none⟩ = some (.slice (some ⟨g1, 0, none⟩) (o + 1) c1) ∧ u.cell? ⟨p, 2, none⟩ = some (.slice (some ⟨g2, 0, none⟩) (o + 2) c2)) u1 := ⟨HST.other e0 h0, HST.other e1 h0⟩
  refine hKK.out _ _ (fun _ _ => hH2) ?_
  clear hKK KK
  clear hHeld
  have hHeld := hH2
  clear hH2 u0
  revert u1
  intro u0 HST hHeld
  (try simp only [Act.put, List.getElem_toArray, List.getElem_cons_zero, List.getElem_cons_succ, List.setIfInBounds_toArray, List.set_cons_zero, List.set_cons_succ])
  refine wpAnyJ_take0 (i := 18) (v := ?_) rfl (by kernel_rfl) (by kernel_rfl) (by kernel_rfl) (fun _ _ _ h => h) (Or.inl ⟨by rfl, ?_⟩) ?_
  rotate_left
  focus ((intro w hSw; clear hSw; go_simp); try with_reducible rfl)
  (try simp only [Act.put, List.getElem_toArray, List.getElem_cons_zero, List.getElem_cons_succ, List.setIfInBounds_toArray, List.set_cons_zero, List.set_cons_succ])
  refine wpAnyJ_take0 (i := 19) (v := ?_) rfl (by kernel_rfl) (by kernel_rfl) (by kernel_rfl) (fun _ _ _ h => h) (Or.inl ⟨by rfl, ?_⟩) ?_
  rotate_left
  focus ((intro w hSw; clear hSw; go_simp); try with_reducible rfl)
  (try simp only [Act.put, List.getElem_toArray, List.getElem_cons_zero, List.getElem_cons_succ, List.setIfInBounds_toArray, List.set_cons_zero, List.set_cons_succ])
  refine wpAnyJ_ready (rs := [20]) (by kernel_rfl) (by simp) ?_
  refine AllReadyJ.cons rfl (fun KK hKK => ?_) AllReadyJ.nil
  have hz1 := HST.cell.2.2.2 0
  have hz2 := HST.cell.1
  go_simp
  clear hz1 hz2
  replace HST := HST.put0 (.slice ra1 (o - m) rc1)
  refine hKK.out _ _ (fun h => absurd h (by decide)) ?_
  clear hKK KK
  generalize u0.setCell ⟨q, 0, none⟩ (.slice ra1 (o - m) rc1) = u1 at HST ⊢
  (try clear hHeld)
  clear u0
  revert u1
  intro u0 HST
  (try simp only [Act.put, List.getElem_toArray, List.getElem_cons_zero, List.getElem_cons_succ, List.setIfInBounds_toArray, List.set_cons_zero, List.set_cons_succ])
  refine wpAnyJ_take0 (i := 21) (v := ?_) rfl (by kernel_rfl) (by kernel_rfl) (by kernel_rfl) (fun _ _ _ h => h) (Or.inl ⟨by rfl, ?_⟩) ?_
  rotate_left
  focus ((intro w hSw; clear hSw; go_simp); try with_reducible rfl)
  (try simp only [Act.put, List.getElem_toArray, List.getElem_cons_zero, List.getElem_cons_succ, List.setIfInBounds_toArray, List.set_cons_zero, List.set_cons_succ])
  refine wpAnyJ_take0 (i := 22) (v := ?_) rfl (by kernel_rfl) (by kernel_rfl) (by kernel_rfl) (fun _ _ _ h => h) (Or.inl ⟨by rfl, ?_⟩) ?_
  rotate_left
  focus ((intro w hSw; clear hSw; go_simp); try with_reducible rfl)
  (try simp only [Act.put, List.getElem_toArray, List.getElem_cons_zero, List.getElem_cons_succ, List.setIfInBounds_toArray, List.set_cons_zero, List.set_cons_succ])
  refine wpAnyJ_ready (rs := [23]) (by kernel_rfl) (by simp) ?_
  refine AllReadyJ.cons rfl (fun KK hKK => ?_) AllReadyJ.nil
  have hz1 := HST.cell.2.2.2 2
  have hz2 := HST.cell.2.2.1
  go_simp
  clear hz1 hz2
  replace HST := HST.put2 (.slice ra2 (o + 1 - m) rc2)
  refine hKK.out _ _ (fun h => absurd h (by decide)) ?_
  clear hKK KK
  generalize u0.setCell ⟨q, 2, none⟩ (.slice ra2 (o + 1 - m) rc2) = u1 at HST ⊢
  (try clear hHeld)
  clear u0
  revert u1
  intro u0 HST
  (try simp only [Act.put, List.getElem_toArray, List.getElem_cons_zero, List.getElem_cons_succ, List.setIfInBounds_toArray, List.set_cons_zero, List.set_cons_succ])
  refine wpAnyJ_done (by kernel_rfl) ?_ _
  refine NoPanic.normal ?_
  have HS := Lib.hid HST
  have HPu := (HP1.out.frame HST.fr HD.out)
  have k0 := HPu.blk.cell (i := 0) rfl
  have k1 := HPu.blk.cell (i := 2) rfl
  have k2 := HPu.blk.free 0
  have k3 := HPu.blk.free 2
  have HPU := Lib.hid HPu
  clear HST HPu
  have hb7 : m ≤ c1 := by omega
  have hb8 : (m : Int) ≤ (o : Int) + 1 := by omega
  go_wp2_with fail
  rw [← HQ.out]
  have hPU := HPU.out
  have hS := HS.out
  have hone := HO1.out
  have ft := hS.fr.frame (fun k => ow p (.slice (some ⟨g1, 0, none⟩) (o + 1) c1) v2 (.slice (some ⟨g2, 0, none⟩) (o + 2) c2) k) HD.out HP1.out.hi
  rw [HKL.out, HVL.out] at hone
  obtain ⟨n1, f1⟩ := hPU.cut3 (m := m + 1) hone (by rw [HVL.out]; omega) ⟨g2, rfl⟩
  have hone2 := f1.one
  obtain ⟨n2, f2⟩ := n1.cut1 (m := m) hone2 (by rw [HKL.out]; omega) ⟨g1, rfl⟩
  have f3 := f1.trans f2
  have hdd : ∀ k, ow p (.slice (some ⟨g1, 0, none⟩) (o + 1) c1) v2 (.slice (some ⟨g2, 0, none⟩) (o + 2) c2) k + ow q (.slice ra1 (o - m) rc1) (.slice none 0 0) (.slice ra2 (o + 1 - m) rc2) k ≤ 1 := fun k => by have := ft.one k; omega
  have f4 := f3.frame (fun k => ow q (.slice ra1 (o - m) rc1) (.slice none 0 0) (.slice ra2 (o + 1 - m) rc2) k) hdd hS.end.hi
  have f5 := HF1.out.trans (ft.trans (f4.congr (fun k => Nat.add_comm _ _) (fun k => rfl)))
  refine ⟨q, key, .slice (some ⟨g1, 0, none⟩) m m, .slice (some ⟨g2, 0, none⟩) (m + 1) (m + 1), .slice ra1 (o - m) rc1, .slice ra2 (o + 1 - m) rc2, by rw [HM.out]; exact HKEY.out, by rfl, ?_, ?_, ?_⟩
  · rw [HM.out]; exact n2
  · rw [HM.out]; exact hS.end.frame f3 hdd
  · rw [HKL.out, HVL.out]; exact f5
end Go.Proofs.Ytjoopjmcnkiieaa

/- More of what a statement that writes fields passes through: deletes, appends; stores into a row. Conditions: none. -/
namespace Go.Proofs.Ytjoopjmcnkiieaa
open Go.RowKit Go.Lib
set_option linter.unusedSimpArgs false
set_option linter.unusedVariables false

section
variable {w0 u : World} {F0 : Nat → Nat} {p : Nat} {c1 c2 c3 v1 v2 v3 : Value} {K : List ByteArray} {V : List Int} {C : List Nat} {E : List (Nat × Value × TypeId)}
theorem St.del1 {g n c i : Nat} (h : St w0 F0 u p c1 c2 c3 (.slice (some ⟨g, 0, none⟩) n c) v2 v3 K V C E) (hi : i < K.length) (hl : K.length ≤ 1000000) (j : Int) (hj : j = (i : Int) + 1) (k : Int) (hk : k = i) :
    Calls Try.prog 52 #[.slice (some ⟨g, 0, none⟩) n c, .int .i64 k, .int .i64 j] u fun e w' => e = .returned (.slice (some ⟨g, 0, none⟩) (n - 1) c) ∧ St w0 F0 w' p c1 c2 c3 (.slice (some ⟨g, 0, none⟩) (n - 1) c) v2 v3 (K.eraseIdx i) V C E := by
  subst hk
  have hn := h.r1.cells.1
  rw [List.length_map] at hn
  subst hn
  have hm : (K.map Value.string).length = K.length := List.length_map _
  have hr := h.r1
  rw [← hm] at hr
  have := delS_any (K.map Value.string) i g c u hr (str_one K) (by rw [hm]; exact hi) (by rw [hm]; exact hl) j hj
  rw [hm] at this
  refine this.mono ?_
  rintro e w' ⟨rfl, h1, h2, _⟩
  rw [hm] at h1
  exact ⟨by rw [hm], h.row1 h2 (.inl rfl) (by rw [erase_map]; exact h1)⟩
theorem St.del2 {g n c i : Nat} (h : St w0 F0 u p c1 c2 c3 v1 (.slice (some ⟨g, 0, none⟩) n c) v3 K V C E) (hi : i < V.length) (hl : V.length ≤ 1000000) (j : Int) (hj : j = (i : Int) + 1) (k : Int) (hk : k = i) :
    Calls Try.prog 53 #[.slice (some ⟨g, 0, none⟩) n c, .int .i64 k, .int .i64 j] u fun e w' => e = .returned (.slice (some ⟨g, 0, none⟩) (n - 1) c) ∧ St w0 F0 w' p c1 c2 c3 v1 (.slice (some ⟨g, 0, none⟩) (n - 1) c) v3 K (V.eraseIdx i) C E := by
  subst hk
  have hn := h.r2.cells.1
  rw [List.length_map] at hn
  subst hn
  have hm : (V.map numV).length = V.length := List.length_map _
  have hr := h.r2
  rw [← hm] at hr
  have := delI_any (V.map numV) i g c u hr (num_one V) (by rw [hm]; exact hi) (by rw [hm]; exact hl) j hj
  rw [hm] at this
  refine this.mono ?_
  rintro e w' ⟨rfl, h1, h2, _⟩
  rw [hm] at h1
  exact ⟨by rw [hm], h.row2 h2 (.inl rfl) (by rw [erase_map]; exact h1)⟩
theorem St.del3 {g n c i : Nat} (h : St w0 F0 u p c1 c2 c3 v1 v2 (.slice (some ⟨g, 0, none⟩) n c) K V C E) (hi : i < C.length) (hl : C.length ≤ 1000000) (j : Int) (hj : j = (i : Int) + 1) (k : Int) (hk : k = i) :
    Calls Try.prog 67 #[.slice (some ⟨g, 0, none⟩) n c, .int .i64 k, .int .i64 j] u fun e w' => e = .returned (.slice (some ⟨g, 0, none⟩) (n - 1) c) ∧ St w0 F0 w' p c1 c2 c3 v1 v2 (.slice (some ⟨g, 0, none⟩) (n - 1) c) K V (C.eraseIdx i) E := by
  subst hk
  have hn := h.r3.cells.1
  rw [List.length_map] at hn
  subst hn
  have hm : (C.map ptrV).length = C.length := List.length_map _
  have hr := h.r3
  rw [← hm] at hr
  have := delP_any (C.map ptrV) i g c u hr (ptr_one C) (by rw [hm]; exact hi) (by rw [hm]; exact hl) j hj
  rw [hm] at this
  refine this.mono ?_
  rintro e w' ⟨rfl, h1, h2, _⟩
  rw [hm] at h1
  exact ⟨by rw [hm], h.row3 h2 (.inl rfl) (by rw [erase_map]; exact h1)⟩
/-- An element in a block of its own, as cells. -/
theorem St.one (h : St w0 F0 u p c1 c2 c3 v1 v2 v3 K V C E) {b : Nat} {x : Value} {t : TypeId} (he : (b, x, t) ∈ E) : Cells u.heap.size u (some ⟨b, 0, none⟩) [x] := by
  have hb := (h.ex _ he).1
  exact .inr ⟨b, 0, rfl, hb.lt, fun j v hj => by rw [Nat.zero_add]; exact hb.cell hj⟩
end
/-- One key of a node is stored. -/
theorem NodeAt.set1 {w : World} {p g n c : Nat} {v2 v3 : Value} {K : List ByteArray} {V : List Int} {C : List Nat} (h : NodeAt w p (.slice (some ⟨g, 0, none⟩) n c) v2 v3 K V C) (h1 : ∀ k, ow p (.slice (some ⟨g, 0, none⟩) n c) v2 v3 k ≤ 1) (i : Nat) (x : ByteArray) :
    NodeAt (w.setCell ⟨g, i, none⟩ (.string x)) p (.slice (some ⟨g, 0, none⟩) n c) v2 v3 (K.set i x) V C ∧ Fr (ow p (.slice (some ⟨g, 0, none⟩) n c) v2 v3) (ow p (.slice (some ⟨g, 0, none⟩) n c) v2 v3) w (w.setCell ⟨g, i, none⟩ (.string x)) := by
  have hgo : 0 < ow p (.slice (some ⟨g, 0, none⟩) n c) v2 v3 g := by unfold ow; rw [rb_some (v := .slice (some ⟨g, 0, none⟩) n c) rfl]; omega
  have h9 := h1 g
  unfold ow at h9
  rw [rb_some (v := .slice (some ⟨g, 0, none⟩) n c) rfl] at h9
  have hgp : p ≠ g := fun e => by rw [if_pos e.symm] at h9; omega
  have hg2 : ∀ k, v2.ownBlock = some k → k ≠ g := fun k e e2 => by subst e2; rw [rb_some e] at h9; omega
  have hg3 : ∀ k, v3.ownBlock = some k → k ≠ g := fun k e e2 => by subst e2; rw [rb_some e] at h9; omega
  have hsc : ∀ k, k ≠ g → (w.setCell ⟨g, i, none⟩ (.string x)).heap[k]? = w.heap[k]? := fun k hk => Below.heap_setCell _ _ _ _ hk
  exact ⟨⟨h.blk.of_heap (hsc p hgp), by rw [List.map_set]; exact h.r1.set i (.string x), h.r2.of_heap fun k e => hsc k (hg2 k e), h.r3.of_heap fun k e => hsc k (hg3 k e)⟩, (Fr.refl h1 h.hi).setCell hgo _⟩
/-- A node's key, kid, number, where it lies. -/
theorem NodeAt.key {w : World} {p n c : Nat} {a : Option Addr} {v2 v3 : Value} {K : List ByteArray} {V : List Int} {C : List Nat} (h : NodeAt w p (.slice a n c) v2 v3 K V C) {i : Nat} {x : ByteArray} (hx : K[i]? = some x) : ∃ g, a = some ⟨g, 0, none⟩ ∧ w.cell? ⟨g, i, none⟩ = some (.string x) ∧ w.frozen? ⟨g, i, none⟩ = false := by
  obtain ⟨g, h1, _, h2, h3⟩ := h.r1.cell (i := i) (x := .string x) (by rw [List.getElem?_map, hx]; rfl)
  exact ⟨g, h1, h2, h3⟩
theorem NodeAt.num {w : World} {p n c : Nat} {a : Option Addr} {v1 v3 : Value} {K : List ByteArray} {V : List Int} {C : List Nat} (h : NodeAt w p v1 (.slice a n c) v3 K V C) {i : Nat} {x : Int} (hx : V[i]? = some x) : ∃ g, a = some ⟨g, 0, none⟩ ∧ w.cell? ⟨g, i, none⟩ = some (.int .i64 x) ∧ w.frozen? ⟨g, i, none⟩ = false := by
  obtain ⟨g, h1, _, h2, h3⟩ := h.r2.cell (i := i) (x := numV x) (by rw [List.getElem?_map, hx]; rfl)
  exact ⟨g, h1, h2, h3⟩
theorem NodeAt.kid {w : World} {p n c : Nat} {a : Option Addr} {v1 v2 : Value} {K : List ByteArray} {V : List Int} {C : List Nat} (h : NodeAt w p v1 v2 (.slice a n c) K V C) {i x : Nat} (hx : C[i]? = some x) : ∃ g, a = some ⟨g, 0, none⟩ ∧ w.cell? ⟨g, i, none⟩ = some (.pointer (some ⟨x, 0, none⟩)) ∧ w.frozen? ⟨g, i, none⟩ = false := by
  obtain ⟨g, h1, _, h2, h3⟩ := h.r3.cell (i := i) (x := ptrV x) (by rw [List.getElem?_map, hx]; rfl)
  exact ⟨g, h1, h2, h3⟩
/-- A node's slices are slices. -/
theorem NodeAt.forms {w : World} {p : Nat} {v1 v2 v3 : Value} {K : List ByteArray} {V : List Int} {C : List Nat} (h : NodeAt w p v1 v2 v3 K V C) :
    ∃ a1 c1 a2 c2 a3 c3, v1 = .slice a1 K.length c1 ∧ v2 = .slice a2 V.length c2 ∧ v3 = .slice a3 C.length c3 ∧ K.length ≤ c1 ∧ V.length ≤ c2 ∧ C.length ≤ c3 ∧ c1 ≤ 9223372036854775807 ∧ c2 ≤ 9223372036854775807 ∧ c3 ≤ 9223372036854775807 := by
  obtain ⟨a1, c1, e1, l1, m1, _⟩ := h.r1.form
  obtain ⟨a2, c2, e2, l2, m2, _⟩ := h.r2.form
  obtain ⟨a3, c3, e3, l3, m3, _⟩ := h.r3.form
  rw [List.length_map] at e1 e2 e3 l1 l2 l3
  exact ⟨a1, c1, a2, c2, a3, c3, e1, e2, e3, l1, l2, l3, m1, m2, m3⟩
theorem NodeAt.cells {w : World} {p : Nat} {v1 v2 v3 : Value} {K : List ByteArray} {V : List Int} {C : List Nat} (h : NodeAt w p v1 v2 v3 K V C) : w.cell? ⟨p, 0, none⟩ = some v1 ∧ w.cell? ⟨p, 1, none⟩ = some v2 ∧ w.cell? ⟨p, 2, none⟩ = some v3 ∧ w.frozen? ⟨p, 0, none⟩ = false ∧ w.frozen? ⟨p, 1, none⟩ = false ∧ w.frozen? ⟨p, 2, none⟩ = false :=
  ⟨h.blk.cell rfl, h.blk.cell rfl, h.blk.cell rfl, h.blk.free 0, h.blk.free 1, h.blk.free 2⟩
end Go.Proofs.Ytjoopjmcnkiieaa

/- The reference: its struct and its three rows. Conditions: none. -/
namespace Go.Proofs.Ytjoopjmcnkiieaa
open Go.RowKit Go.Lib
set_option linter.unusedSimpArgs false
set_option linter.unusedVariables false

/-- The reference: its three rows. -/
structure RefAt (w : World) (p : Nat) (v1 v2 v3 : Value) (K : List ByteArray) (V : List Int) (C : List ByteArray) : Prop where
  blk : Block w p [v1, v2, v3] 46
  r1 : Arr w 9 v1 (K.map Value.string)
  r2 : Arr w 2 v2 (V.map numV)
  r3 : Arr w 9 v3 (C.map Value.string)
theorem RefAt.of_heap {w w' : World} {p : Nat} {v1 v2 v3 : Value} {K : List ByteArray} {V : List Int} {C : List ByteArray} (h : RefAt w p v1 v2 v3 K V C) (hh : ∀ k, 0 < ow p v1 v2 v3 k → w'.heap[k]? = w.heap[k]?) : RefAt w' p v1 v2 v3 K V C :=
  ⟨h.blk.of_heap (hh p (ow_self p v1 v2 v3)), h.r1.of_heap fun k e => hh k (by unfold ow; rw [rb_some e]; omega), h.r2.of_heap fun k e => hh k (by unfold ow; rw [rb_some e]; omega), h.r3.of_heap fun k e => hh k (by unfold ow; rw [rb_some e]; omega)⟩
theorem RefAt.hi {w : World} {p : Nat} {v1 v2 v3 : Value} {K : List ByteArray} {V : List Int} {C : List ByteArray} (h : RefAt w p v1 v2 v3 K V C) (k : Nat) (hk : w.heap.size ≤ k) : ow p v1 v2 v3 k = 0 := by
  have h1 := h.blk.lt
  have hr : ∀ {e : TypeId} {v : Value} {xs : List Value}, Arr w e v xs → rb v k = 0 := fun {e v xs} hv => by
    by_cases he : v.ownBlock = some k
    · have := hv.lt k he; omega
    · exact if_neg he
  unfold ow
  rw [if_neg (by omega), hr h.r1, hr h.r2, hr h.r3]
/-- What else stands beside: untouched. -/
theorem RefAt.frame {w w' : World} {F F' : Nat → Nat} {p : Nat} {v1 v2 v3 : Value} {K : List ByteArray} {V : List Int} {C : List ByteArray} (h : RefAt w p v1 v2 v3 K V C) (hf : Fr F F' w w') (hd : ∀ k, F k + ow p v1 v2 v3 k ≤ 1) : RefAt w' p v1 v2 v3 K V C :=
  h.of_heap fun k hk => hf.block k (by
    by_cases hkk : k < w.heap.size
    · exact hkk
    · have := h.hi k (by omega); omega) (by have := hd k; omega)

/-- What a statement passes through that writes fields of a node: the cells, the rows that are or will be there, single elements in blocks of their own. -/
structure Rs (w0 : World) (F0 : Nat → Nat) (u : World) (p : Nat) (c1 c2 c3 v1 v2 v3 : Value) (K : List ByteArray) (V : List Int) (C : List ByteArray) (E : List (Nat × Value × TypeId)) : Prop where
  blk : Block u p [c1, c2, c3] 46
  r1 : Arr u 9 v1 (K.map Value.string)
  r2 : Arr u 2 v2 (V.map numV)
  r3 : Arr u 9 v3 (C.map Value.string)
  fr : Fr F0 (ow p v1 v2 v3) w0 u
  ex : ∀ e ∈ E, Block u e.1 [e.2.1] e.2.2 ∧ ow p v1 v2 v3 e.1 = 0
section
variable {w0 u : World} {F0 : Nat → Nat} {p : Nat} {c1 c2 c3 v1 v2 v3 : Value} {K : List ByteArray} {V : List Int} {C : List ByteArray} {E : List (Nat × Value × TypeId)}
theorem Rs.start (h : RefAt u p v1 v2 v3 K V C) (h1 : ∀ k, ow p v1 v2 v3 k ≤ 1) : Rs u (ow p v1 v2 v3) u p v1 v2 v3 v1 v2 v3 K V C [] :=
  ⟨h.blk, h.r1, h.r2, h.r3, Fr.refl h1 h.hi, fun e he => by cases he⟩
theorem Rs.drew (h : Rs w0 F0 u p c1 c2 c3 v1 v2 v3 K V C E) : Rs w0 F0 u.drew p c1 c2 c3 v1 v2 v3 K V C E := ⟨h.blk, h.r1, h.r2, h.r3, h.fr.drew, h.ex⟩
theorem Rs.alloc (h : Rs w0 F0 u p c1 c2 c3 v1 v2 v3 K V C E) (x : Value) (t : TypeId) : Rs w0 F0 (u.alloc (.cells #[x] t)) p c1 c2 c3 v1 v2 v3 K V C ((u.heap.size, x, t) :: E) := by
  have hk : ∀ k, k < u.heap.size → (u.alloc (.cells #[x] t)).heap[k]? = u.heap[k]? := fun k hk => Below.heap_alloc _ _ _ hk
  refine ⟨h.blk.alloc _, h.r1.of_heap fun k e => hk k (h.r1.lt k e), h.r2.of_heap fun k e => hk k (h.r2.lt k e), h.r3.of_heap fun k e => hk k (h.r3.lt k e), h.fr.alloc _, fun e he => ?_⟩
  rcases List.mem_cons.1 he with rfl | he
  · exact ⟨Block.new u [x] t, h.fr.hi _ (Nat.le_refl _)⟩
  · exact ⟨(h.ex e he).1.alloc _, (h.ex e he).2⟩
theorem Rs.cell (h : Rs w0 F0 u p c1 c2 c3 v1 v2 v3 K V C E) : u.cell? ⟨p, 0, none⟩ = some c1 ∧ u.cell? ⟨p, 1, none⟩ = some c2 ∧ u.cell? ⟨p, 2, none⟩ = some c3 ∧ ∀ q, u.frozen? ⟨p, q, none⟩ = false :=
  ⟨h.blk.cell rfl, h.blk.cell rfl, h.blk.cell rfl, fun q => h.blk.free q⟩
/-- A cell of what stands beside. -/
theorem Rs.other (h : Rs w0 F0 u p c1 c2 c3 v1 v2 v3 K V C E) {a : Addr} {x : Value} (hx : w0.cell? a = some x) (h0 : F0 a.block = 0) : u.cell? a = some x :=
  (World.cell?_of_block (h.fr.block _ (World.block_lt_of_cell? w0 a hx) h0)).trans hx
theorem Rs.end (h : Rs w0 F0 u p v1 v2 v3 v1 v2 v3 K V C E) : RefAt u p v1 v2 v3 K V C := ⟨h.blk, h.r1, h.r2, h.r3⟩
theorem Rs.put0 (h : Rs w0 F0 u p c1 c2 c3 v1 v2 v3 K V C E) (v : Value) : Rs w0 F0 (u.setCell ⟨p, 0, none⟩ v) p v c2 c3 v1 v2 v3 K V C E := by
  have hp : ∀ k, k ≠ p → (u.setCell ⟨p, 0, none⟩ v).heap[k]? = u.heap[k]? := fun k hk => Below.heap_setCell _ _ _ _ hk
  have h1 := h.fr.one p
  unfold ow at h1
  rw [if_pos rfl] at h1
  refine ⟨h.blk.set 0 v, h.r1.of_heap fun k e => hp k (fun e2 => rb_zero (v := v1) (k := p) (by omega) (e2 ▸ e)), h.r2.of_heap fun k e => hp k (fun e2 => rb_zero (v := v2) (k := p) (by omega) (e2 ▸ e)), h.r3.of_heap fun k e => hp k (fun e2 => rb_zero (v := v3) (k := p) (by omega) (e2 ▸ e)), h.fr.setCell (by have := ow_self p v1 v2 v3; exact this) v, fun e he => ⟨(h.ex e he).1.of_heap (hp _ (fun e2 => by have h5 := (h.ex e he).2; rw [e2] at h5; have := ow_self p v1 v2 v3; omega)), (h.ex e he).2⟩⟩
theorem Rs.put1 (h : Rs w0 F0 u p c1 c2 c3 v1 v2 v3 K V C E) (v : Value) : Rs w0 F0 (u.setCell ⟨p, 1, none⟩ v) p c1 v c3 v1 v2 v3 K V C E := by
  have hp : ∀ k, k ≠ p → (u.setCell ⟨p, 1, none⟩ v).heap[k]? = u.heap[k]? := fun k hk => Below.heap_setCell _ _ _ _ hk
  have h1 := h.fr.one p
  unfold ow at h1
  rw [if_pos rfl] at h1
  refine ⟨h.blk.set 1 v, h.r1.of_heap fun k e => hp k (fun e2 => rb_zero (v := v1) (k := p) (by omega) (e2 ▸ e)), h.r2.of_heap fun k e => hp k (fun e2 => rb_zero (v := v2) (k := p) (by omega) (e2 ▸ e)), h.r3.of_heap fun k e => hp k (fun e2 => rb_zero (v := v3) (k := p) (by omega) (e2 ▸ e)), h.fr.setCell (by have := ow_self p v1 v2 v3; exact this) v, fun e he => ⟨(h.ex e he).1.of_heap (hp _ (fun e2 => by have h5 := (h.ex e he).2; rw [e2] at h5; have := ow_self p v1 v2 v3; omega)), (h.ex e he).2⟩⟩
theorem Rs.put2 (h : Rs w0 F0 u p c1 c2 c3 v1 v2 v3 K V C E) (v : Value) : Rs w0 F0 (u.setCell ⟨p, 2, none⟩ v) p c1 c2 v v1 v2 v3 K V C E := by
  have hp : ∀ k, k ≠ p → (u.setCell ⟨p, 2, none⟩ v).heap[k]? = u.heap[k]? := fun k hk => Below.heap_setCell _ _ _ _ hk
  have h1 := h.fr.one p
  unfold ow at h1
  rw [if_pos rfl] at h1
  refine ⟨h.blk.set 2 v, h.r1.of_heap fun k e => hp k (fun e2 => rb_zero (v := v1) (k := p) (by omega) (e2 ▸ e)), h.r2.of_heap fun k e => hp k (fun e2 => rb_zero (v := v2) (k := p) (by omega) (e2 ▸ e)), h.r3.of_heap fun k e => hp k (fun e2 => rb_zero (v := v3) (k := p) (by omega) (e2 ▸ e)), h.fr.setCell (by have := ow_self p v1 v2 v3; exact this) v, fun e he => ⟨(h.ex e he).1.of_heap (hp _ (fun e2 => by have h5 := (h.ex e he).2; rw [e2] at h5; have := ow_self p v1 v2 v3; omega)), (h.ex e he).2⟩⟩
/-- The first row has turned. -/
theorem Rs.row1 {u' : World} {v1' : Value} {K' : List ByteArray} (h : Rs w0 F0 u p c1 c2 c3 v1 v2 v3 K V C E) (hg : u.grownBy u' v1.ownBlock) (hn : NewB u v1 v1') (h' : Arr u' 9 v1' (K'.map Value.string)) : Rs w0 F0 u' p c1 c2 c3 v1' v2 v3 K' V C E := by
  have hone := h.fr.one
  have hhi := h.fr.hi
  have f1 := (Fr.row hg hn h').frame (fun k => (if k = p then 1 else 0) + rb v2 k + rb v3 k) (fun k => by have := hone k; unfold ow at this; omega) (fun k hk => by have := hhi k hk; unfold ow at this; omega)
  have f2 : Fr (ow p v1 v2 v3) (ow p v1' v2 v3) u u' := f1.congr (fun k => by unfold ow; omega) (fun k => by unfold ow; omega)
  have hb : ∀ k, k < u.heap.size → rb v1 k = 0 → u'.heap[k]? = u.heap[k]? := fun k hk h0 => hg.block k hk (fun e => rb_zero h0 e.symm)
  have hk2 : ∀ k, v2.ownBlock = some k → u'.heap[k]? = u.heap[k]? := fun k e => hb k (h.r2.lt k e) (by have := hone k; unfold ow at this; rw [rb_some e] at this; omega)
  have hk3 : ∀ k, v3.ownBlock = some k → u'.heap[k]? = u.heap[k]? := fun k e => hb k (h.r3.lt k e) (by have := hone k; unfold ow at this; rw [rb_some e] at this; omega)
  refine ⟨h.blk.of_heap (hb p h.blk.lt (by have := hone p; unfold ow at this; rw [if_pos rfl] at this; omega)), h', h.r2.of_heap hk2, h.r3.of_heap hk3, h.fr.trans f2, fun e he => ?_⟩
  obtain ⟨h5, h6⟩ := h.ex e he
  have h7 := f2.le e.1 h5.lt
  exact ⟨h5.of_heap (hb _ h5.lt (by unfold ow at h6; omega)), by omega⟩
theorem Rs.row2 {u' : World} {v2' : Value} {V' : List Int} (h : Rs w0 F0 u p c1 c2 c3 v1 v2 v3 K V C E) (hg : u.grownBy u' v2.ownBlock) (hn : NewB u v2 v2') (h' : Arr u' 2 v2' (V'.map numV)) : Rs w0 F0 u' p c1 c2 c3 v1 v2' v3 K V' C E := by
  have hone := h.fr.one
  have hhi := h.fr.hi
  have f1 := (Fr.row hg hn h').frame (fun k => (if k = p then 1 else 0) + rb v1 k + rb v3 k) (fun k => by have := hone k; unfold ow at this; omega) (fun k hk => by have := hhi k hk; unfold ow at this; omega)
  have f2 : Fr (ow p v1 v2 v3) (ow p v1 v2' v3) u u' := f1.congr (fun k => by unfold ow; omega) (fun k => by unfold ow; omega)
  have hb : ∀ k, k < u.heap.size → rb v2 k = 0 → u'.heap[k]? = u.heap[k]? := fun k hk h0 => hg.block k hk (fun e => rb_zero h0 e.symm)
  have hk2 : ∀ k, v1.ownBlock = some k → u'.heap[k]? = u.heap[k]? := fun k e => hb k (h.r1.lt k e) (by have := hone k; unfold ow at this; rw [rb_some e] at this; omega)
  have hk3 : ∀ k, v3.ownBlock = some k → u'.heap[k]? = u.heap[k]? := fun k e => hb k (h.r3.lt k e) (by have := hone k; unfold ow at this; rw [rb_some e] at this; omega)
  refine ⟨h.blk.of_heap (hb p h.blk.lt (by have := hone p; unfold ow at this; rw [if_pos rfl] at this; omega)), h.r1.of_heap hk2, h', h.r3.of_heap hk3, h.fr.trans f2, fun e he => ?_⟩
  obtain ⟨h5, h6⟩ := h.ex e he
  have h7 := f2.le e.1 h5.lt
  exact ⟨h5.of_heap (hb _ h5.lt (by unfold ow at h6; omega)), by omega⟩
theorem Rs.row3 {u' : World} {v3' : Value} {C' : List ByteArray} (h : Rs w0 F0 u p c1 c2 c3 v1 v2 v3 K V C E) (hg : u.grownBy u' v3.ownBlock) (hn : NewB u v3 v3') (h' : Arr u' 9 v3' (C'.map Value.string)) : Rs w0 F0 u' p c1 c2 c3 v1 v2 v3' K V C' E := by
  have hone := h.fr.one
  have hhi := h.fr.hi
  have f1 := (Fr.row hg hn h').frame (fun k => (if k = p then 1 else 0) + rb v1 k + rb v2 k) (fun k => by have := hone k; unfold ow at this; omega) (fun k hk => by have := hhi k hk; unfold ow at this; omega)
  have f2 : Fr (ow p v1 v2 v3) (ow p v1 v2 v3') u u' := f1.congr (fun k => by unfold ow; omega) (fun k => by unfold ow; omega)
  have hb : ∀ k, k < u.heap.size → rb v3 k = 0 → u'.heap[k]? = u.heap[k]? := fun k hk h0 => hg.block k hk (fun e => rb_zero h0 e.symm)
  have hk2 : ∀ k, v1.ownBlock = some k → u'.heap[k]? = u.heap[k]? := fun k e => hb k (h.r1.lt k e) (by have := hone k; unfold ow at this; rw [rb_some e] at this; omega)
  have hk3 : ∀ k, v2.ownBlock = some k → u'.heap[k]? = u.heap[k]? := fun k e => hb k (h.r2.lt k e) (by have := hone k; unfold ow at this; rw [rb_some e] at this; omega)
  refine ⟨h.blk.of_heap (hb p h.blk.lt (by have := hone p; unfold ow at this; rw [if_pos rfl] at this; omega)), h.r1.of_heap hk2, h.r2.of_heap hk3, h', h.fr.trans f2, fun e he => ?_⟩
  obtain ⟨h5, h6⟩ := h.ex e he
  have h7 := f2.le e.1 h5.lt
  exact ⟨h5.of_heap (hb _ h5.lt (by unfold ow at h6; omega)), by omega⟩

theorem Fr.still {F F' : Nat → Nat} {a w w2 : World} (h : Fr F F' a w) (hb : Below w.heap.size w w2 ∧ w2.heap = w.heap) : Fr F F' a w2 :=
  ⟨hb.1.os.trans h.os, hb.1.tape.trans h.tape, hb.1.output.trans h.output, by rw [hb.2]; exact h.size, fun k hk h0 => by rw [hb.2]; exact h.block k hk h0, h.le, h.one, fun k hk => h.hi k (by rw [hb.2] at hk; exact hk)⟩
theorem Rs.still {u2 : World} (h : Rs w0 F0 u p c1 c2 c3 v1 v2 v3 K V C E) (hb : Below u.heap.size u u2 ∧ u2.heap = u.heap) : Rs w0 F0 u2 p c1 c2 c3 v1 v2 v3 K V C E :=
  ⟨h.blk.of_heap (by rw [hb.2]), h.r1.of_heap (fun k _ => by rw [hb.2]), h.r2.of_heap (fun k _ => by rw [hb.2]), h.r3.of_heap (fun k _ => by rw [hb.2]), h.fr.still hb, fun e he => ⟨(h.ex e he).1.of_heap (by rw [hb.2]), (h.ex e he).2⟩⟩
theorem wp_still_tail' {P : Program} {id : Nat} {Q : Exit → Act → World → Prop} {a : Act} {w : World} {l : List Oper} (n : Nat) (hm : P.follows .mixedOrders = true) (hB : Region.lexTailB .any l.toArray n = true)
    (h : ∀ w2, Below w.heap.size w w2 ∧ w2.heap = w.heap → wpStill P l.toArray w2 (fun a' => wpList P l.toArray Q (l.drop n) a' w2) (l.take n) a) : (Code.region id l.toArray true).wp P Q a w :=
  wp_region_still_tail n hm hB (h w.drew ⟨(Below.refl _ _).drew, rfl⟩)
theorem grownBy_setCell' (u : World) (g i : Nat) (v : Value) : u.grownBy (u.setCell ⟨g, i, none⟩ v) (some g) :=
  ⟨rfl, rfl, rfl, by simp [World.setCell], fun k hk hn => Below.heap_setCell _ _ _ _ (fun e => hn (by rw [e]))⟩
theorem Rs.set1 {g n c : Nat} (h : Rs w0 F0 u p c1 c2 c3 (.slice (some ⟨g, 0, none⟩) n c) v2 v3 K V C E) (i : Nat) (x : ByteArray) : Rs w0 F0 (u.setCell ⟨g, i, none⟩ (.string x)) p c1 c2 c3 (.slice (some ⟨g, 0, none⟩) n c) v2 v3 (K.set i x) V C E :=
  h.row1 (grownBy_setCell' u g i _) (.inl rfl) (by rw [List.map_set]; exact h.r1.set i _)
theorem Rs.set2 {g n c : Nat} (h : Rs w0 F0 u p c1 c2 c3 v1 (.slice (some ⟨g, 0, none⟩) n c) v3 K V C E) (i : Nat) (x : Int) : Rs w0 F0 (u.setCell ⟨g, i, none⟩ (.int .i64 x)) p c1 c2 c3 v1 (.slice (some ⟨g, 0, none⟩) n c) v3 K (V.set i x) C E :=
  h.row2 (grownBy_setCell' u g i _) (.inl rfl) (by rw [List.map_set]; exact h.r2.set i _)
theorem Rs.key {a : Option Addr} {n c i : Nat} {x : ByteArray} (h : Rs w0 F0 u p c1 c2 c3 (.slice a n c) v2 v3 K V C E) (hx : K[i]? = some x) : ∃ g, a = some ⟨g, 0, none⟩ ∧ u.cell? ⟨g, i, none⟩ = some (.string x) ∧ u.frozen? ⟨g, i, none⟩ = false := by
  obtain ⟨g, h1, _, h2, h3⟩ := h.r1.cell (i := i) (x := .string x) (by rw [List.getElem?_map, hx]; rfl)
  exact ⟨g, h1, h2, h3⟩
theorem Rs.num {a : Option Addr} {n c i : Nat} {x : Int} (h : Rs w0 F0 u p c1 c2 c3 v1 (.slice a n c) v3 K V C E) (hx : V[i]? = some x) : ∃ g, a = some ⟨g, 0, none⟩ ∧ u.cell? ⟨g, i, none⟩ = some (.int .i64 x) ∧ u.frozen? ⟨g, i, none⟩ = false := by
  obtain ⟨g, h1, _, h2, h3⟩ := h.r2.cell (i := i) (x := numV x) (by rw [List.getElem?_map, hx]; rfl)
  exact ⟨g, h1, h2, h3⟩
theorem Rs.chg {a : Option Addr} {n c i : Nat} {x : ByteArray} (h : Rs w0 F0 u p c1 c2 c3 v1 v2 (.slice a n c) K V C E) (hx : C[i]? = some x) : ∃ g, a = some ⟨g, 0, none⟩ ∧ u.cell? ⟨g, i, none⟩ = some (.string x) ∧ u.frozen? ⟨g, i, none⟩ = false := by
  obtain ⟨g, h1, _, h2, h3⟩ := h.r3.cell (i := i) (x := .string x) (by rw [List.getElem?_map, hx]; rfl)
  exact ⟨g, h1, h2, h3⟩
theorem Rs.forms (h : Rs w0 F0 u p c1 c2 c3 v1 v2 v3 K V C E) :
    ∃ a1 k1 a2 k2 a3 k3, v1 = .slice a1 K.length k1 ∧ v2 = .slice a2 V.length k2 ∧ v3 = .slice a3 C.length k3 ∧ K.length ≤ k1 ∧ V.length ≤ k2 ∧ C.length ≤ k3 ∧ k1 ≤ 9223372036854775807 ∧ k2 ≤ 9223372036854775807 ∧ k3 ≤ 9223372036854775807 := by
  obtain ⟨a1, c1, e1, l1, m1, _⟩ := h.r1.form
  obtain ⟨a2, c2, e2, l2, m2, _⟩ := h.r2.form
  obtain ⟨a3, c3, e3, l3, m3, _⟩ := h.r3.form
  rw [List.length_map] at e1 e2 e3 l1 l2 l3
  exact ⟨a1, c1, a2, c2, a3, c3, e1, e2, e3, l1, l2, l3, m1, m2, m3⟩
theorem Rs.app1 {a a' : Option Addr} {n c c' : Nat} {x : ByteArray} {u' : World} (h : Rs w0 F0 u p c1 c2 c3 (.slice a n c) v2 v3 K V C E) (h1 : Arr u' 9 (.slice a' (n + 1) c') (K.map Value.string ++ [.string x])) (h2 : u.grownBy u' (Value.slice a n c).ownBlock) (h3 : NewB u (.slice a n c) (.slice a' (n + 1) c')) :
    Rs w0 F0 u' p c1 c2 c3 (.slice a' (n + 1) c') v2 v3 (K ++ [x]) V C E := h.row1 h2 h3 (by rw [List.map_append]; exact h1)
theorem Rs.app2 {a a' : Option Addr} {n c c' : Nat} {x : Int} {u' : World} (h : Rs w0 F0 u p c1 c2 c3 v1 (.slice a n c) v3 K V C E) (h1 : Arr u' 2 (.slice a' (n + 1) c') (V.map numV ++ [numV x])) (h2 : u.grownBy u' (Value.slice a n c).ownBlock) (h3 : NewB u (.slice a n c) (.slice a' (n + 1) c')) :
    Rs w0 F0 u' p c1 c2 c3 v1 (.slice a' (n + 1) c') v3 K (V ++ [x]) C E := h.row2 h2 h3 (by rw [List.map_append]; exact h1)
theorem Rs.app3 {a a' : Option Addr} {n c c' : Nat} {x : ByteArray} {u' : World} (h : Rs w0 F0 u p c1 c2 c3 v1 v2 (.slice a n c) K V C E) (h1 : Arr u' 9 (.slice a' (n + 1) c') (C.map Value.string ++ [.string x])) (h2 : u.grownBy u' (Value.slice a n c).ownBlock) (h3 : NewB u (.slice a n c) (.slice a' (n + 1) c')) :
    Rs w0 F0 u' p c1 c2 c3 v1 v2 (.slice a' (n + 1) c') K V (C ++ [x]) E := h.row3 h2 h3 (by rw [List.map_append]; exact h1)
end
theorem one_cell' {u : World} {vb : Nat} {x : Value} {t : TypeId} (h : Block u vb [x] t) : Cells u.heap.size u (some ⟨vb, 0, none⟩) [x] :=
  .inr ⟨vb, 0, rfl, h.lt, fun i v hi => by
    cases i with
    | zero => simp at hi; subst hi; exact h.cell rfl
    | succ i => simp at hi⟩
/-- The reference's answer: pairs, and the keys of all changes, the eldest ahead. -/
def IsRef (w : World) (xb : Nat) (G : Nat → Nat) (l : List (ByteArray × Int)) (H : List ByteArray) : Prop :=
  ∃ v1 v2 v3, RefAt w xb v1 v2 v3 (l.map (·.1)) (l.map (·.2)) H ∧ G = ow xb v1 v2 v3 ∧ ∀ k, G k ≤ 1
theorem zip_maps (l : List (ByteArray × Int)) : (l.map (·.1)).zip (l.map (·.2)) = l := by
  induction l with
  | nil => rfl
  | cons e r ih => simp [ih]
theorem zip_fst {K : List ByteArray} {V : List Int} (h : V.length = K.length) : (K.zip V).map (·.1) = K := by rw [List.map_fst_zip]; omega
theorem zip_snd {K : List ByteArray} {V : List Int} (h : V.length = K.length) : (K.zip V).map (·.2) = V := by rw [List.map_snd_zip]; omega
/-- A row under way from its end down: one element is laid behind the place. -/
def shiftL {α : Type} (K : List α) (x : α) (i : Nat) : List α := (K ++ [x]).take (i + 1) ++ K.drop i
section
variable {α : Type} {K : List α} {x : α} {i : Nat}
theorem shiftL_len (h : i ≤ K.length) : (shiftL K x i).length = K.length + 1 := by simp [shiftL]; omega
theorem shiftL_full : shiftL K x K.length = K ++ [x] := by
  unfold shiftL
  rw [List.take_of_length_le (by simp), List.drop_length, List.append_nil]
theorem shiftL_get {j : Nat} (hj : j < i) (h : i ≤ K.length) : (shiftL K x i)[j]? = K[j]? := by
  unfold shiftL
  rw [List.getElem?_append_left (by simp; omega), List.getElem?_take_of_lt (by omega), List.getElem?_append_left (by omega)]
theorem shiftL_step {y : α} (h : i + 1 ≤ K.length) (hy : K[i]? = some y) : (shiftL K x (i + 1)).set (i + 1) y = shiftL K x i := by
  apply List.ext_getElem?
  intro q
  obtain ⟨hl, he⟩ := List.getElem?_eq_some_iff.1 hy
  rw [List.getElem?_set]
  unfold shiftL
  by_cases hq : i + 1 = q
  · subst hq
    rw [if_pos rfl, if_pos (by simp; omega), List.getElem?_append_right (by simp; omega)]
    simp only [List.length_take, List.length_append, List.length_singleton, List.getElem?_drop]
    rw [show i + (i + 1 - min (i + 1) (K.length + 1)) = i from by omega, hy]
  · rw [if_neg hq]
    rcases Nat.lt_or_ge q (i + 1) with h1 | h1
    · rw [List.getElem?_append_left (by simp; omega), List.getElem?_append_left (by simp; omega), List.getElem?_take_of_lt (by omega), List.getElem?_take_of_lt (by omega)]
    · rw [List.getElem?_append_right (by simp; omega), List.getElem?_append_right (by simp; omega)]
      simp only [List.length_take, List.length_append, List.length_singleton, List.getElem?_drop]
      congr 1; omega
theorem shiftL_end (h : i ≤ K.length) : (shiftL K x i).set i x = insAt K i x := by
  apply List.ext_getElem?
  intro q
  rw [List.getElem?_set]
  unfold shiftL insAt
  by_cases hq : i = q
  · subst hq
    rw [if_pos rfl, if_pos (by simp; omega), List.getElem?_append_right (by simp; omega)]
    simp [Nat.min_eq_left h]
  · rw [if_neg hq]
    rcases Nat.lt_or_ge q i with h1 | h1
    · rw [List.getElem?_append_left (by simp; omega), List.getElem?_append_left (by simp; omega), List.getElem?_take_of_lt (by omega), List.getElem?_take_of_lt (by omega), List.getElem?_append_left (by omega)]
    · rw [List.getElem?_append_right (by simp; omega), List.getElem?_append_right (by simp; omega)]
      simp only [List.length_take, List.length_append, List.length_singleton, List.getElem?_drop]
      rw [show q - min i K.length = (q - i - 1) + 1 from by omega, List.getElem?_cons_succ, List.getElem?_drop]
      congr 1; omega
end
end Go.Proofs.Ytjoopjmcnkiieaa

/- Trees: nodes with what is below them; what they hold, in order; their bounds. Conditions: none. -/
namespace Go.Proofs.Ytjoopjmcnkiieaa
open Go.RowKit Go.Lib
set_option linter.unusedSimpArgs false
set_option linter.unusedVariables false

/-- A node with what is below it. -/
inductive Tr where
  | mk (p : Nat) (v1 v2 v3 : Value) (ks : List ByteArray) (vs : List Int) (cs : List Tr) : Tr
def Tr.p : Tr → Nat | .mk p _ _ _ _ _ _ => p
def Tr.v1 : Tr → Value | .mk _ v _ _ _ _ _ => v
def Tr.v2 : Tr → Value | .mk _ _ v _ _ _ _ => v
def Tr.v3 : Tr → Value | .mk _ _ _ v _ _ _ => v
def Tr.ks : Tr → List ByteArray | .mk _ _ _ _ k _ _ => k
def Tr.vs : Tr → List Int | .mk _ _ _ _ _ v _ => v
def Tr.cs : Tr → List Tr | .mk _ _ _ _ _ _ c => c
@[simp] theorem Tr.mk_p (p : Nat) (v1 v2 v3 : Value) (ks : List ByteArray) (vs : List Int) (cs : List Tr) : (Tr.mk p v1 v2 v3 ks vs cs).p = p := rfl
@[simp] theorem Tr.mk_v1 (p : Nat) (v1 v2 v3 : Value) (ks : List ByteArray) (vs : List Int) (cs : List Tr) : (Tr.mk p v1 v2 v3 ks vs cs).v1 = v1 := rfl
@[simp] theorem Tr.mk_v2 (p : Nat) (v1 v2 v3 : Value) (ks : List ByteArray) (vs : List Int) (cs : List Tr) : (Tr.mk p v1 v2 v3 ks vs cs).v2 = v2 := rfl
@[simp] theorem Tr.mk_v3 (p : Nat) (v1 v2 v3 : Value) (ks : List ByteArray) (vs : List Int) (cs : List Tr) : (Tr.mk p v1 v2 v3 ks vs cs).v3 = v3 := rfl
@[simp] theorem Tr.mk_ks (p : Nat) (v1 v2 v3 : Value) (ks : List ByteArray) (vs : List Int) (cs : List Tr) : (Tr.mk p v1 v2 v3 ks vs cs).ks = ks := rfl
@[simp] theorem Tr.mk_vs (p : Nat) (v1 v2 v3 : Value) (ks : List ByteArray) (vs : List Int) (cs : List Tr) : (Tr.mk p v1 v2 v3 ks vs cs).vs = vs := rfl
@[simp] theorem Tr.mk_cs (p : Nat) (v1 v2 v3 : Value) (ks : List ByteArray) (vs : List Int) (cs : List Tr) : (Tr.mk p v1 v2 v3 ks vs cs).cs = cs := rfl
def Tr.ow (t : Tr) (k : Nat) : Nat := Go.Proofs.Ytjoopjmcnkiieaa.ow t.p t.v1 t.v2 t.v3 k
def fpL (f : Tr → Nat → Nat) : List Tr → Nat → Nat
  | [], _ => 0
  | c :: r, k => f c k + fpL f r k
theorem fpL_append (f : Tr → Nat → Nat) (a b : List Tr) (k : Nat) : fpL f (a ++ b) k = fpL f a k + fpL f b k := by
  induction a with
  | nil => simp [fpL]
  | cons c r ih => simp only [List.cons_append, fpL, ih]; omega
theorem fpL_mem {f : Tr → Nat → Nat} {l : List Tr} {c : Tr} (h : c ∈ l) (k : Nat) : f c k ≤ fpL f l k := by
  induction l with
  | nil => cases h
  | cons x r ih =>
    rcases List.mem_cons.1 h with rfl | h
    · unfold fpL; omega
    · have := ih h; unfold fpL; omega
/-- The blocks of a tree that is so deep. -/
def fp : Nat → Tr → Nat → Nat
  | 0, t, k => t.ow k
  | d + 1, t, k => t.ow k + fpL (fp d) t.cs k
/-- It lies in memory. -/
def mem : Nat → World → Tr → Prop
  | 0, w, t => NodeAt w t.p t.v1 t.v2 t.v3 t.ks t.vs [] ∧ t.cs = []
  | d + 1, w, t => NodeAt w t.p t.v1 t.v2 t.v3 t.ks [] (t.cs.map Tr.p) ∧ t.vs = [] ∧ ∀ c ∈ t.cs, mem d w c
/-- What it holds, in order. -/
def flat : Nat → Tr → List (ByteArray × Int)
  | 0, t => t.ks.zip t.vs
  | d + 1, t => t.cs.flatMap (flat d)
theorem fp_ow (d : Nat) (t : Tr) (k : Nat) : t.ow k ≤ fp d t k := by cases d <;> simp [fp]
theorem mem_node {d : Nat} {w : World} {t : Tr} (h : mem d w t) : ∃ V C, NodeAt w t.p t.v1 t.v2 t.v3 t.ks V C := by
  cases d with
  | zero => exact ⟨_, _, h.1⟩
  | succ d => exact ⟨_, _, h.1⟩
theorem mem_hi {d : Nat} : ∀ {w : World} {t : Tr}, mem d w t → ∀ k, w.heap.size ≤ k → fp d t k = 0 := by
  induction d with
  | zero => intro w t h k hk; exact h.1.hi k hk
  | succ d ih =>
    intro w t h k hk
    have h1 := h.1.hi k hk
    have h2 : ∀ l : List Tr, (∀ c ∈ l, mem d w c) → fpL (fp d) l k = 0 := by
      intro l
      induction l with
      | nil => intro _; rfl
      | cons c r ih2 => intro hl; unfold fpL; rw [ih (hl c (List.mem_cons_self)) k hk, ih2 (fun c hc => hl c (List.mem_cons_of_mem _ hc))]
    show t.ow k + fpL (fp d) t.cs k = 0
    rw [h2 _ h.2.2]
    exact h1
theorem mem_frame {d : Nat} : ∀ {w w' : World} {F F' : Nat → Nat} {t : Tr}, mem d w t → Fr F F' w w' → (∀ k, F k + fp d t k ≤ 1) → mem d w' t := by
  induction d with
  | zero => intro w w' F F' t h hf hd; exact ⟨h.1.frame hf hd, h.2⟩
  | succ d ih =>
    intro w w' F F' t h hf hd
    refine ⟨h.1.frame hf (fun k => by have := hd k; simp only [fp, Tr.ow] at this; omega), h.2.1, fun c hc => ih (h.2.2 c hc) hf (fun k => ?_)⟩
    have h1 := hd k
    have h2 := fpL_mem (f := fp d) hc k
    simp only [fp] at h1
    omega

/- Order. -/
def ltB (a b : Option ByteArray) : Prop := ∀ x y, a = some x → b = some y → ltS x y = true
def inR (lo hi : Option ByteArray) (k : ByteArray) : Prop := (∀ l, lo = some l → ltS k l = false) ∧ ∀ h, hi = some h → ltS k h = true
theorem ltB_trans {a b : Option ByteArray} {k : ByteArray} (h1 : ltB a (some k)) (h2 : ltB (some k) b) : ltB a b := fun x y hx hy => ltS_trans (h1 x k hx rfl) (h2 k y rfl hy)
theorem sorted_iff (K : List ByteArray) : SortedS K ↔ K.Pairwise (fun x y => ltS x y = true) := by
  rw [List.pairwise_iff_getElem]
  constructor
  · intro h i j hi hj hij; exact h i j _ _ hij (List.getElem?_eq_getElem hi) (List.getElem?_eq_getElem hj)
  · intro h i j x y hij hx hy
    obtain ⟨hi, rfl⟩ := List.getElem?_eq_some_iff.1 hx
    obtain ⟨hj, rfl⟩ := List.getElem?_eq_some_iff.1 hy
    exact h i j hi hj hij
section
variable (f : Option ByteArray → Option ByteArray → Tr → Prop)
/-- What stands left of a kid, with the keys behind each. -/
def seg : Option ByteArray → List (Tr × ByteArray) → Option ByteArray → Prop
  | lo, [], lo' => lo' = lo
  | lo, x :: r, lo' => f lo (some x.2) x.1 ∧ seg (some x.2) r lo'
/-- What stands right of a kid, with the keys ahead of each. -/
def rseg : Option ByteArray → List (ByteArray × Tr) → Option ByteArray → Prop
  | h, [], hi => h = hi
  | h, x :: r, hi => h = some x.1 ∧ ∃ h', f (some x.1) h' x.2 ∧ rseg h' r hi
/-- A fork, seen from one of its kids. -/
structure Foc (lo hi : Option ByteArray) (ks : List ByteArray) (cs : List Tr) (L : List (Tr × ByteArray)) (c : Tr) (R : List (ByteArray × Tr)) (lo' hi' : Option ByteArray) : Prop where
  ks : ks = L.map (·.2) ++ R.map (·.1)
  cs : cs = L.map (·.1) ++ c :: R.map (·.2)
  l : seg f lo L lo'
  c : f lo' hi' c
  r : rseg f hi' R hi
def Frk (lo hi : Option ByteArray) (ks : List ByteArray) (cs : List Tr) : Prop := ∃ c R h, ks = R.map (·.1) ∧ cs = c :: R.map (·.2) ∧ f lo h c ∧ rseg f h R hi
variable {f} {lo hi lo' hi' : Option ByteArray} {ks : List ByteArray} {cs : List Tr} {L : List (Tr × ByteArray)} {c : Tr} {R : List (ByteArray × Tr)}
theorem seg_snoc {k : ByteArray} : seg f lo (L ++ [(c, k)]) lo' ↔ ∃ l, seg f lo L l ∧ f l (some k) c ∧ lo' = some k := by
  induction L generalizing lo with
  | nil =>
    constructor
    · rintro ⟨h1, h2⟩; exact ⟨lo, rfl, h1, h2⟩
    · rintro ⟨l, rfl, h1, h2⟩; exact ⟨h1, h2⟩
  | cons x r ih =>
    constructor
    · rintro ⟨h1, h2⟩; obtain ⟨l, h3, h4⟩ := ih.1 h2; exact ⟨l, ⟨h1, h3⟩, h4⟩
    · rintro ⟨l, ⟨h1, h3⟩, h4⟩; exact ⟨h1, ih.2 ⟨l, h3, h4⟩⟩
theorem Frk.focus (h : Frk f lo hi ks cs) : ∀ i, i ≤ ks.length → ∃ L c R lo' hi', L.length = i ∧ Foc f lo hi ks cs L c R lo' hi' := by
  intro i
  induction i with
  | zero => intro _; obtain ⟨c, R, h1, hk, hc, hf, hr⟩ := h; exact ⟨[], c, R, lo, h1, rfl, ⟨by simpa using hk, by simpa using hc, rfl, hf, hr⟩⟩
  | succ i ih =>
    intro hi
    obtain ⟨L, c, R, lo', hi', hl, hF⟩ := ih (by omega)
    have hks := hF.ks
    have hcs := hF.cs
    have hr := hF.r
    cases R with
    | nil => rw [hks] at hi; simp at hi; omega
    | cons x r =>
      obtain ⟨rfl, h', h1, h2⟩ := hr
      exact ⟨L ++ [(c, x.1)], x.2, r, some x.1, h', by simp [hl], ⟨by rw [hks]; simp, by rw [hcs]; simp, seg_snoc.2 ⟨lo', hF.l, hF.c, rfl⟩, h1, h2⟩⟩
theorem Foc.back (h : Foc f lo hi ks cs L c R lo' hi') : Frk f lo hi ks cs := by
  induction L generalizing lo ks cs with
  | nil =>
    have hl : lo' = lo := h.l
    subst hl
    exact ⟨c, R, hi', by simpa using h.ks, by simpa using h.cs, h.c, h.r⟩
  | cons x r ih =>
    obtain ⟨h1, h2⟩ := h.l
    obtain ⟨c1, R1, h3, e1, e2, h4, h5⟩ := ih (lo := some x.2) (ks := r.map (·.2) ++ R.map (·.1)) (cs := r.map (·.1) ++ c :: R.map (·.2)) ⟨rfl, rfl, h2, h.c, h.r⟩
    refine ⟨x.1, (x.2, c1) :: R1, some x.2, ?_, ?_, h1, rfl, h3, h4, h5⟩
    · rw [h.ks]; simp [e1]
    · rw [h.cs]; simp [e2]
theorem Frk.len (h : Frk f lo hi ks cs) : cs.length = ks.length + 1 := by
  obtain ⟨c, R, _, rfl, rfl, _⟩ := h
  simp
variable (hB : ∀ lo hi c, f lo hi c → ltB lo hi)
include hB
theorem seg_le {k : ByteArray} (h : seg f (some k) L lo') : ∃ x, lo' = some x ∧ (x = k ∨ ltS k x = true) := by
  induction L generalizing k with
  | nil => exact ⟨k, h, .inl rfl⟩
  | cons x r ih =>
    obtain ⟨h1, h2⟩ := h
    obtain ⟨y, hy, h3⟩ := ih h2
    have h4 := hB _ _ _ h1 k x.2 rfl rfl
    refine ⟨y, hy, .inr ?_⟩
    rcases h3 with rfl | h3
    · exact h4
    · exact ltS_trans h4 h3
theorem rseg_ltB (h1 : f lo hi' c) (h : rseg f hi' R hi) : ltB lo hi := by
  induction R generalizing lo hi' c with
  | nil => have e : hi' = hi := h; subst e; exact hB _ _ _ h1
  | cons x r ih =>
    obtain ⟨rfl, h', h2, h3⟩ := h
    exact ltB_trans (hB _ _ _ h1) (ih h2 h3)
theorem Frk.bnd (h : Frk f lo hi ks cs) : ltB lo hi := by
  obtain ⟨c, R, h1, _, _, h2, h3⟩ := h
  exact rseg_ltB hB h2 h3
theorem rseg_sorted (h : rseg f hi' R hi) : (R.map (·.1)).Pairwise (fun x y => ltS x y = true) ∧ (∀ k ∈ R.map (·.1), ∀ x, hi' = some x → x = k ∨ ltS x k = true) := by
  induction R generalizing hi' with
  | nil => exact ⟨List.Pairwise.nil, fun k hk => by cases hk⟩
  | cons x r ih =>
    obtain ⟨rfl, h', h2, h3⟩ := h
    obtain ⟨h4, h5⟩ := ih h3
    have h6 : ∀ k ∈ r.map (·.1), ltS x.1 k = true := by
      intro k hk
      cases r with
      | nil => cases hk
      | cons y r =>
        obtain ⟨rfl, _⟩ := h3
        have h7 := hB _ _ _ h2 x.1 y.1 rfl rfl
        rcases h5 k hk y.1 rfl with rfl | h8
        · exact h7
        · exact ltS_trans h7 h8
    refine ⟨List.pairwise_cons.2 ⟨h6, h4⟩, fun k hk y hy => ?_⟩
    injection hy with hy
    subst hy
    rcases List.mem_cons.1 hk with rfl | hk
    · exact .inl rfl
    · exact .inr (h6 k hk)
theorem Frk.sorted (h : Frk f lo hi ks cs) : SortedS ks := by
  obtain ⟨c, R, h1, e, _, h2, h3⟩ := h
  subst e
  exact (sorted_iff _).2 (rseg_sorted hB h3).1
end
end Go.Proofs.Ytjoopjmcnkiieaa

/- Trees: what they hold is sorted and within their bounds; puts and deletes on lists. Conditions: none. -/
namespace Go.Proofs.Ytjoopjmcnkiieaa
open Go.RowKit Go.Lib
set_option linter.unusedSimpArgs false
set_option linter.unusedVariables false

def lst (o : Nat) : Nat → Nat
  | 0 => (o + 1) / 2
  | _ + 1 => o / 2
/-- As it must be: so many keys, within the bounds, rising. -/
def inv (o : Nat) : Nat → Nat → Nat → Option ByteArray → Option ByteArray → Tr → Prop
  | 0, a, b, lo, hi, t => t.vs.length = t.ks.length ∧ SortedS t.ks ∧ (∀ k ∈ t.ks, inR lo hi k) ∧ ltB lo hi ∧ a ≤ t.ks.length ∧ t.ks.length ≤ b
  | d + 1, a, b, lo, hi, t => Frk (fun lo hi c => inv o d (lst o d) o lo hi c) lo hi t.ks t.cs ∧ a ≤ t.ks.length ∧ t.ks.length ≤ b
theorem inv_ltB {o : Nat} : ∀ {d a b : Nat} {lo hi : Option ByteArray} {t : Tr}, inv o d a b lo hi t → ltB lo hi := by
  intro d
  induction d with
  | zero => intro a b lo hi t h; exact h.2.2.2.1
  | succ d ih => intro a b lo hi t h; exact h.1.bnd (fun lo hi c hc => ih hc)
theorem inv_len {o d a b : Nat} {lo hi : Option ByteArray} {t : Tr} (h : inv o d a b lo hi t) : a ≤ t.ks.length ∧ t.ks.length ≤ b := by
  cases d with
  | zero => exact h.2.2.2.2
  | succ d => exact h.2
theorem inv_size {o d a b a' b' : Nat} {lo hi : Option ByteArray} {t : Tr} (h : inv o d a b lo hi t) (ha : a' ≤ t.ks.length) (hb : t.ks.length ≤ b') : inv o d a' b' lo hi t := by
  cases d with
  | zero => exact ⟨h.1, h.2.1, h.2.2.1, h.2.2.2.1, ha, hb⟩
  | succ d => exact ⟨h.1, ha, hb⟩
theorem inv_sorted {o d a b : Nat} {lo hi : Option ByteArray} {t : Tr} (h : inv o d a b lo hi t) : SortedS t.ks := by
  cases d with
  | zero => exact h.2.1
  | succ d => exact h.1.sorted (fun lo hi c hc => inv_ltB hc)
def ltP (x y : ByteArray × Int) : Prop := ltS x.1 y.1 = true
section
variable {f : Option ByteArray → Option ByteArray → Tr → Prop} {g : Tr → List (ByteArray × Int)} {lo hi lo' hi' : Option ByteArray} {ks : List ByteArray} {cs : List Tr} {L : List (Tr × ByteArray)} {c : Tr} {R : List (ByteArray × Tr)}
variable (hB : ∀ lo hi c, f lo hi c → ltB lo hi) (hG : ∀ lo hi c, f lo hi c → ∀ e ∈ g c, inR lo hi e.1)
include hB hG
/-- Left of a kid all is below its lower bound. -/
theorem seg_below (h : seg f lo L lo') : ∀ e ∈ (L.map (·.1)).flatMap g, ∃ x, lo' = some x ∧ ltS e.1 x = true := by
  induction L generalizing lo with
  | nil => intro e he; cases he
  | cons x r ih =>
    intro e he
    obtain ⟨h1, h2⟩ := h
    rw [List.map_cons, List.flatMap_cons, List.mem_append] at he
    rcases he with he | he
    · obtain ⟨y, hy, h3⟩ := seg_le hB h2
      have h4 := (hG _ _ _ h1 e he).2 _ rfl
      refine ⟨y, hy, ?_⟩
      rcases h3 with rfl | h3
      · exact h4
      · exact ltS_trans h4 h3
    · exact ih h2 e he
/-- Right of a kid all is from its upper bound on. -/
theorem rseg_above (h : rseg f hi' R hi) : ∀ e ∈ (R.map (·.2)).flatMap g, ∃ x, hi' = some x ∧ ltS e.1 x = false := by
  induction R generalizing hi' with
  | nil => intro e he; cases he
  | cons x r ih =>
    intro e he
    obtain ⟨rfl, h', h1, h2⟩ := h
    rw [List.map_cons, List.flatMap_cons, List.mem_append] at he
    refine ⟨x.1, rfl, ?_⟩
    rcases he with he | he
    · exact (hG _ _ _ h1 e he).1 _ rfl
    · obtain ⟨y, rfl, h3⟩ := ih h2 e he
      exact ltS_asymm (ltS_lt_le (hB _ _ _ h1 _ _ rfl rfl) h3)
theorem rseg_inR (h1 : f lo hi' c) (h : rseg f hi' R hi) : ∀ e ∈ g c ++ (R.map (·.2)).flatMap g, inR lo hi e.1 := by
  induction R generalizing lo hi' c with
  | nil =>
    intro e he
    have e1 : hi' = hi := h
    subst e1
    exact hG _ _ _ h1 e (by simpa using he)
  | cons x r ih =>
    obtain ⟨rfl, h', h2, h3⟩ := h
    intro e he
    have h4 := ih h2 h3
    have h5 := rseg_ltB hB h2 h3
    rw [List.mem_append] at he
    rcases he with he | he
    · have h6 := hG _ _ _ h1 e he
      exact ⟨h6.1, fun y hy => ltS_trans (h6.2 _ rfl) (h5 _ _ rfl hy)⟩
    · have h6 := h4 e (by simpa using he)
      exact ⟨fun y hy => ltS_asymm (ltS_lt_le (hB _ _ _ h1 _ _ hy rfl) (h6.1 _ rfl)), h6.2⟩
theorem rseg_pair (hP : ∀ lo hi c, f lo hi c → (g c).Pairwise ltP) (h1 : f lo hi' c) (h : rseg f hi' R hi) : (g c ++ (R.map (·.2)).flatMap g).Pairwise ltP := by
  induction R generalizing lo hi' c with
  | nil => simpa using hP _ _ _ h1
  | cons x r ih =>
    obtain ⟨rfl, h', h2, h3⟩ := h
    have h4 := ih h2 h3
    rw [List.map_cons, List.flatMap_cons]
    refine List.pairwise_append.2 ⟨hP _ _ _ h1, h4, fun a ha b hb => ?_⟩
    have h5 := (hG _ _ _ h1 a ha).2 _ rfl
    have h6 := (rseg_inR hB hG h2 h3 b hb).1 _ rfl
    exact ltS_lt_le h5 h6
end
theorem flat_facts {o : Nat} : ∀ {d a b : Nat} {lo hi : Option ByteArray} {t : Tr}, inv o d a b lo hi t → (∀ e ∈ flat d t, inR lo hi e.1) ∧ (flat d t).Pairwise ltP := by
  intro d
  induction d with
  | zero =>
    intro a b lo hi t h
    refine ⟨fun e he => h.2.2.1 _ (List.of_mem_zip he).1, ?_⟩
    have hs := (sorted_iff _).1 h.2.1
    show (t.ks.zip t.vs).Pairwise ltP
    generalize t.ks = K at *
    generalize t.vs = V at *
    clear h
    induction K generalizing V with
    | nil => simp
    | cons k K ih =>
      cases V with
      | nil => simp
      | cons v V =>
        rw [List.pairwise_cons] at hs
        rw [List.zip_cons_cons, List.pairwise_cons]
        exact ⟨fun e he => hs.1 _ (List.of_mem_zip he).1, ih hs.2 V⟩
  | succ d ih =>
    intro a b lo hi t h
    obtain ⟨c, R, h1, hk, hc, h2, h3⟩ := h.1
    have e : flat (d + 1) t = flat d c ++ (R.map (·.2)).flatMap (flat d) := by show t.cs.flatMap (flat d) = _; rw [hc, List.flatMap_cons]
    rw [e]
    exact ⟨rseg_inR (fun _ _ _ h => inv_ltB h) (fun _ _ _ h => (ih h).1) h2 h3, rseg_pair (fun _ _ _ h => inv_ltB h) (fun _ _ _ h => (ih h).1) (fun _ _ _ h => (ih h).2) h2 h3⟩

/- Lists of pairs. -/
def insF (key : ByteArray) (x : Int) (l : List (ByteArray × Int)) : List (ByteArray × Int) := l.filter (fun e => ltS e.1 key) ++ (key, x) :: l.filter (fun e => ltS key e.1)
def delF (key : ByteArray) (l : List (ByteArray × Int)) : List (ByteArray × Int) := l.filter (fun e => decide (e.1 ≠ key))
def hasF (key : ByteArray) (l : List (ByteArray × Int)) : Bool := l.any (fun e => decide (e.1 = key))
theorem filter_all {α : Type} {p : α → Bool} {l : List α} (h : ∀ a ∈ l, p a = true) : l.filter p = l := List.filter_eq_self.2 h
theorem filter_none {α : Type} {p : α → Bool} {l : List α} (h : ∀ a ∈ l, p a = false) : l.filter p = [] := List.filter_eq_nil_iff.2 fun a ha => by rw [h a ha]; simp
theorem ltS_ne {x y : ByteArray} (h : ltS x y = true) : x ≠ y := fun e => by rw [e, ltS_irrefl] at h; cases h
section
variable {key : ByteArray} {x : Int} {A F B : List (ByteArray × Int)} (hA : ∀ e ∈ A, ltS e.1 key = true) (hb : ∀ e ∈ B, ltS key e.1 = true)
include hA hb
theorem insF_mid : insF key x (A ++ F ++ B) = A ++ insF key x F ++ B := by
  unfold insF
  simp only [List.filter_append]
  rw [filter_all hA, filter_none (l := B) (fun e he => ltS_asymm (hb e he)), filter_none (l := A) (fun e he => ltS_asymm (hA e he)), filter_all hb]
  simp
theorem delF_mid : delF key (A ++ F ++ B) = A ++ delF key F ++ B := by
  unfold delF
  simp only [List.filter_append]
  rw [filter_all (l := A) (fun e he => by simpa using ltS_ne (hA e he)), filter_all (l := B) (fun e he => by simpa using (ltS_ne (hb e he)).symm)]
theorem hasF_mid : hasF key (A ++ F ++ B) = hasF key F := by
  unfold hasF
  have h1 : (A.any fun e => decide (e.1 = key)) = false := List.any_eq_false.2 (fun e he => by simpa using ltS_ne (hA e he))
  have h2 : (B.any fun e => decide (e.1 = key)) = false := List.any_eq_false.2 (fun e he => by simpa using (ltS_ne (hb e he)).symm)
  rw [List.any_append, List.any_append, h1, h2]
  simp
end
end Go.Proofs.Ytjoopjmcnkiieaa

/- A leaf's pairs: put, taken away. Conditions: none. -/
namespace Go.Proofs.Ytjoopjmcnkiieaa
open Go.RowKit Go.Lib
set_option linter.unusedSimpArgs false
set_option linter.unusedVariables false
set_option linter.unusedSectionVars false

section
variable {K : List ByteArray} {V : List Int} {key : ByteArray} {x : Int} {r : Nat} (hs : SortedS K) (hr : r ≤ K.length) (hlo : ∀ (i : Nat) y, i < r → K[i]? = some y → ltS y key = true) (hhi : ∀ (i : Nat) y, r ≤ i → K[i]? = some y → ltS y key = false)
include hlo in
theorem pos_lo : ∀ y ∈ K.take r, ltS y key = true := by
  intro y hy
  obtain ⟨i, hi⟩ := List.mem_iff_getElem?.1 hy
  have hir : i < r := by
    have := (List.getElem?_eq_some_iff.1 hi).1
    rw [List.length_take] at this; omega
  rw [List.getElem?_take_of_lt hir] at hi
  exact hlo i y hir hi
include hs in
theorem pos_at (h : K[r]? = some key) : K.drop r = key :: K.drop (r + 1) ∧ ∀ y ∈ K.drop (r + 1), ltS key y = true := by
  obtain ⟨hl, he⟩ := List.getElem?_eq_some_iff.1 h
  refine ⟨by rw [List.drop_eq_getElem_cons hl, he], fun y hy => ?_⟩
  obtain ⟨i, hi⟩ := List.mem_iff_getElem?.1 hy
  rw [List.getElem?_drop] at hi
  exact hs r (r + 1 + i) key y (by omega) h hi
include hs hhi in
theorem pos_not (h : ¬ K[r]? = some key) : ∀ y ∈ K.drop r, ltS key y = true := by
  intro y hy
  obtain ⟨i, hi⟩ := List.mem_iff_getElem?.1 hy
  rw [List.getElem?_drop] at hi
  obtain ⟨z, hz⟩ : ∃ z, K[r]? = some z := get_some (by have := (List.getElem?_eq_some_iff.1 hi).1; omega)
  have h1 : ltS key z = true := by
    rcases ltS_tri key z with h2 | h2 | h2
    · exact h2
    · subst h2; exact absurd hz h
    · rw [hhi r z (Nat.le_refl _) hz] at h2; cases h2
  rcases Nat.eq_zero_or_pos i with rfl | hp
  · rw [Nat.add_zero, hz] at hi; injection hi with hi; subst hi; exact h1
  · exact ltS_trans h1 (hs r (r + i) z y (by omega) hz hi)
theorem zip_split (hV : V.length = K.length) (m : Nat) : K.zip V = (K.take m).zip (V.take m) ++ (K.drop m).zip (V.drop m) := by
  rw [← List.zip_append (by simp [hV]), List.take_append_drop, List.take_append_drop]
theorem zip_key {A : List ByteArray} {B : List Int} {p : ByteArray → Prop} (h : ∀ y ∈ A, p y) : ∀ e ∈ A.zip B, p e.1 := fun e he => h _ (List.of_mem_zip he).1
include hs hlo hhi hr
theorem zip_ins (hV : V.length = K.length) (h : ¬ K[r]? = some key) : insF key x (K.zip V) = (insAt K r key).zip (insAt V r x) := by
  have h1 := zip_key (B := V.take r) (pos_lo hlo)
  have h2 := zip_key (B := V.drop r) (pos_not hs hhi h)
  have h3 := insF_mid (x := x) (F := []) h1 h2
  rw [List.append_nil] at h3
  rw [zip_split hV r, h3]
  unfold insAt
  rw [List.zip_append (by simp; omega)]
  simp [insF]
theorem zip_set (hV : V.length = K.length) (h : K[r]? = some key) : insF key x (K.zip V) = K.zip (V.set r x) := by
  obtain ⟨h4, h5⟩ := pos_at hs h
  have hl := (List.getElem?_eq_some_iff.1 h).1
  have h1 := zip_key (B := V.take r) (pos_lo hlo)
  have h2 := zip_key (B := V.drop (r + 1)) h5
  have h6 : V.drop r = V[r]'(by omega) :: V.drop (r + 1) := List.drop_eq_getElem_cons (by omega)
  have h3 := insF_mid (x := x) (F := [(key, V[r]'(by omega))]) h1 h2
  rw [zip_split hV r, h4, h6, List.zip_cons_cons, show ∀ (a : List (ByteArray × Int)) b c, a ++ b :: c = a ++ [b] ++ c from fun a b c => by simp, h3]
  rw [show V.set r x = V.take r ++ x :: V.drop (r + 1) from by rw [List.set_eq_take_append_cons_drop, if_pos (by omega)]]
  conv => rhs; rw [← List.take_append_drop r K, h4]
  rw [List.zip_append (by simp; omega)]
  simp [insF, ltS_irrefl]
theorem zip_del (hV : V.length = K.length) (h : K[r]? = some key) : delF key (K.zip V) = (K.eraseIdx r).zip (V.eraseIdx r) := by
  obtain ⟨h4, h5⟩ := pos_at hs h
  have hl := (List.getElem?_eq_some_iff.1 h).1
  have h1 := zip_key (B := V.take r) (pos_lo hlo)
  have h2 := zip_key (B := V.drop (r + 1)) h5
  have h6 : V.drop r = V[r]'(by omega) :: V.drop (r + 1) := List.drop_eq_getElem_cons (by omega)
  have h3 := delF_mid (F := [(key, V[r]'(by omega))]) h1 h2
  rw [zip_split hV r, h4, h6, List.zip_cons_cons, show ∀ (a : List (ByteArray × Int)) b c, a ++ b :: c = a ++ [b] ++ c from fun a b c => by simp, h3]
  rw [List.eraseIdx_eq_take_drop_succ, List.eraseIdx_eq_take_drop_succ, List.zip_append (by simp; omega)]
  simp [delF]
theorem zip_keep (hV : V.length = K.length) (h : ¬ K[r]? = some key) : delF key (K.zip V) = K.zip V := by
  have h1 := zip_key (B := V.take r) (pos_lo hlo)
  have h2 := zip_key (B := V.drop r) (pos_not hs hhi h)
  have h3 := delF_mid (F := []) h1 h2
  rw [List.append_nil] at h3
  rw [zip_split hV r, h3]
  simp [delF]
theorem zip_has (hV : V.length = K.length) : hasF key (K.zip V) = decide (K[r]? = some key) := by
  have h1 := zip_key (B := V.take r) (pos_lo hlo)
  by_cases h : K[r]? = some key
  · obtain ⟨h4, h5⟩ := pos_at hs h
    have hl := (List.getElem?_eq_some_iff.1 h).1
    have h2 := zip_key (B := V.drop (r + 1)) h5
    have h6 : V.drop r = V[r]'(by omega) :: V.drop (r + 1) := List.drop_eq_getElem_cons (by omega)
    have h3 := hasF_mid (F := [(key, V[r]'(by omega))]) h1 h2
    rw [zip_split hV r, h4, h6, List.zip_cons_cons, show ∀ (a : List (ByteArray × Int)) b c, a ++ b :: c = a ++ [b] ++ c from fun a b c => by simp, h3, decide_eq_true h]
    simp [hasF]
  · have h2 := zip_key (B := V.drop r) (pos_not hs hhi h)
    have h3 := hasF_mid (F := []) h1 h2
    rw [List.append_nil] at h3
    rw [zip_split hV r, h3, decide_eq_false h]
    simp [hasF]
theorem sorted_ins (h : ¬ K[r]? = some key) : SortedS (insAt K r key) := by
  have h1 := pos_lo hlo
  have h2 := pos_not hs hhi h
  have h3 := (sorted_iff _).1 hs
  rw [← List.take_append_drop r K, List.pairwise_append] at h3
  rw [sorted_iff]
  unfold insAt
  refine List.pairwise_append.2 ⟨h3.1, List.pairwise_cons.2 ⟨h2, h3.2.1⟩, fun a ha b hb => ?_⟩
  rcases List.mem_cons.1 hb with rfl | hb
  · exact h1 a ha
  · exact h3.2.2 a ha b hb
end
theorem mem_insAt {α : Type} {K : List α} {r : Nat} {key k : α} (h : k ∈ insAt K r key) : k = key ∨ k ∈ K := by
  unfold insAt at h
  rcases List.mem_append.1 h with h | h
  · exact .inr (List.mem_of_mem_take h)
  · rcases List.mem_cons.1 h with h | h
    · exact .inl h
    · exact .inr (List.mem_of_mem_drop h)
theorem sorted_sub {K K' : List ByteArray} (h : SortedS K) (hk : K'.Sublist K) : SortedS K' := (sorted_iff _).2 (((sorted_iff _).1 h).sublist hk)
end Go.Proofs.Ytjoopjmcnkiieaa

/- Three nodes beside each other. Conditions: none. -/
namespace Go.Proofs.Ytjoopjmcnkiieaa
open Go.RowKit Go.Lib
set_option linter.unusedSimpArgs false
set_option linter.unusedVariables false

structure Tri (w0 : World) (F0 : Nat → Nat) (w : World) (pn : Nat) (n1 n2 n3 : Value) (Kn : List ByteArray) (Vn : List Int) (Cn : List Nat) (pa : Nat) (a1 a2 a3 : Value) (Ka : List ByteArray) (Va : List Int) (Ca : List Nat) (pb : Nat) (b1 b2 b3 : Value) (Kb : List ByteArray) (Vb : List Int) (Cb : List Nat) : Prop where
  n : NodeAt w pn n1 n2 n3 Kn Vn Cn
  a : NodeAt w pa a1 a2 a3 Ka Va Ca
  b : NodeAt w pb b1 b2 b3 Kb Vb Cb
  fr : Fr F0 (fun k => ow pn n1 n2 n3 k + ow pa a1 a2 a3 k + ow pb b1 b2 b3 k) w0 w
section
variable {w0 : World} {F0 : Nat → Nat} {w w' : World} {pn : Nat} {n1 n2 n3 n1' n2' n3' : Value} {Kn Kn' : List ByteArray} {Vn Vn' : List Int} {Cn Cn' : List Nat} {pa : Nat} {a1 a2 a3 a1' a2' a3' : Value} {Ka Ka' : List ByteArray} {Va Va' : List Int} {Ca Ca' : List Nat} {pb : Nat} {b1 b2 b3 b1' b2' b3' : Value} {Kb Kb' : List ByteArray} {Vb Vb' : List Int} {Cb Cb' : List Nat}
theorem Tri.one (h : Tri w0 F0 w pn n1 n2 n3 Kn Vn Cn pa a1 a2 a3 Ka Va Ca pb b1 b2 b3 Kb Vb Cb) (k : Nat) : ow pn n1 n2 n3 k + ow pa a1 a2 a3 k + ow pb b1 b2 b3 k ≤ 1 := h.fr.one k
theorem Tri.start (hn : NodeAt w pn n1 n2 n3 Kn Vn Cn) (ha : NodeAt w pa a1 a2 a3 Ka Va Ca) (hb : NodeAt w pb b1 b2 b3 Kb Vb Cb) (h1 : ∀ k, ow pn n1 n2 n3 k + ow pa a1 a2 a3 k + ow pb b1 b2 b3 k ≤ 1) :
    Tri w (fun k => ow pn n1 n2 n3 k + ow pa a1 a2 a3 k + ow pb b1 b2 b3 k) w pn n1 n2 n3 Kn Vn Cn pa a1 a2 a3 Ka Va Ca pb b1 b2 b3 Kb Vb Cb :=
  ⟨hn, ha, hb, Fr.refl h1 (fun k hk => by have := hn.hi k hk; have := ha.hi k hk; have := hb.hi k hk; omega)⟩
theorem Tri.drew (h : Tri w0 F0 w pn n1 n2 n3 Kn Vn Cn pa a1 a2 a3 Ka Va Ca pb b1 b2 b3 Kb Vb Cb) : Tri w0 F0 w.drew pn n1 n2 n3 Kn Vn Cn pa a1 a2 a3 Ka Va Ca pb b1 b2 b3 Kb Vb Cb := ⟨h.n.drew, h.a.drew, h.b.drew, h.fr.drew⟩
theorem Tri.upd_n (h : Tri w0 F0 w pn n1 n2 n3 Kn Vn Cn pa a1 a2 a3 Ka Va Ca pb b1 b2 b3 Kb Vb Cb) (hx : NodeAt w' pn n1' n2' n3' Kn' Vn' Cn') (hf : Fr (ow pn n1 n2 n3) (ow pn n1' n2' n3') w w') :
    Tri w0 F0 w' pn n1' n2' n3' Kn' Vn' Cn' pa a1 a2 a3 Ka Va Ca pb b1 b2 b3 Kb Vb Cb := by
  have h1 := h.one
  refine ⟨hx, h.a.frame hf (fun k => by have := h1 k; omega), h.b.frame hf (fun k => by have := h1 k; omega), h.fr.trans ((hf.frame (fun k => ow pa a1 a2 a3 k + ow pb b1 b2 b3 k) (fun k => by have := h1 k; omega) (fun k hk => by have := h.a.hi k hk; have := h.b.hi k hk; omega)).congr (fun k => by omega) (fun k => by omega))⟩
theorem Tri.upd_a (h : Tri w0 F0 w pn n1 n2 n3 Kn Vn Cn pa a1 a2 a3 Ka Va Ca pb b1 b2 b3 Kb Vb Cb) (hx : NodeAt w' pa a1' a2' a3' Ka' Va' Ca') (hf : Fr (ow pa a1 a2 a3) (ow pa a1' a2' a3') w w') :
    Tri w0 F0 w' pn n1 n2 n3 Kn Vn Cn pa a1' a2' a3' Ka' Va' Ca' pb b1 b2 b3 Kb Vb Cb := by
  have h1 := h.one
  refine ⟨h.n.frame hf (fun k => by have := h1 k; omega), hx, h.b.frame hf (fun k => by have := h1 k; omega), h.fr.trans ((hf.frame (fun k => ow pn n1 n2 n3 k + ow pb b1 b2 b3 k) (fun k => by have := h1 k; omega) (fun k hk => by have := h.n.hi k hk; have := h.b.hi k hk; omega)).congr (fun k => by omega) (fun k => by omega))⟩
theorem Tri.upd_b (h : Tri w0 F0 w pn n1 n2 n3 Kn Vn Cn pa a1 a2 a3 Ka Va Ca pb b1 b2 b3 Kb Vb Cb) (hx : NodeAt w' pb b1' b2' b3' Kb' Vb' Cb') (hf : Fr (ow pb b1 b2 b3) (ow pb b1' b2' b3') w w') :
    Tri w0 F0 w' pn n1 n2 n3 Kn Vn Cn pa a1 a2 a3 Ka Va Ca pb b1' b2' b3' Kb' Vb' Cb' := by
  have h1 := h.one
  refine ⟨h.n.frame hf (fun k => by have := h1 k; omega), h.a.frame hf (fun k => by have := h1 k; omega), hx, h.fr.trans ((hf.frame (fun k => ow pn n1 n2 n3 k + ow pa a1 a2 a3 k) (fun k => by have := h1 k; omega) (fun k hk => by have := h.n.hi k hk; have := h.a.hi k hk; omega)).congr (fun k => by omega) (fun k => by omega))⟩
end
/-- A cell that belongs to a node. -/
theorem NodeAt.owns {w : World} {p : Nat} {v1 v2 v3 : Value} {K : List ByteArray} {V : List Int} {C : List Nat} (h : NodeAt w p v1 v2 v3 K V C) : 0 < ow p v1 v2 v3 p ∧ (∀ k, v1.ownBlock = some k → 0 < ow p v1 v2 v3 k) ∧ (∀ k, v2.ownBlock = some k → 0 < ow p v1 v2 v3 k) ∧ (∀ k, v3.ownBlock = some k → 0 < ow p v1 v2 v3 k) :=
  ⟨ow_self p v1 v2 v3, fun k e => by unfold ow; rw [rb_some e]; omega, fun k e => by unfold ow; rw [rb_some e]; omega, fun k e => by unfold ow; rw [rb_some e]; omega⟩
/-- What lend and join leave. -/
def Lend3 (pn pa pb : Nat) (n1 n2 n3 a1 a2 a3 b1 b2 b3 : Value) (Kn : List ByteArray) (Vn : List Int) (Cn : List Nat) (Ka : List ByteArray) (Va : List Int) (Ca : List Nat) (Kb : List ByteArray) (Vb : List Int) (Cb : List Nat) (w : World) (e : Ending) (w' : World) : Prop :=
  e = .returned (.tuple #[]) ∧ ∃ n1' n2' n3' a1' a2' a3' b1' b2' b3', Tri w (fun k => ow pn n1 n2 n3 k + ow pa a1 a2 a3 k + ow pb b1 b2 b3 k) w' pn n1' n2' n3' Kn Vn Cn pa a1' a2' a3' Ka Va Ca pb b1' b2' b3' Kb Vb Cb
/-- What stands beside a node whose fields are being written. -/
theorem St.beside {w0 u : World} {F0 : Nat → Nat} {p : Nat} {c1 c2 c3 v1 v2 v3 : Value} {K : List ByteArray} {V : List Int} {C : List Nat} {E : List (Nat × Value × TypeId)} (h : St w0 F0 u p c1 c2 c3 v1 v2 v3 K V C E) {p' : Nat} {b1 b2 b3 : Value} {K' : List ByteArray} {V' : List Int} {C' : List Nat} (hb : NodeAt w0 p' b1 b2 b3 K' V' C') (hd : ∀ k, F0 k + ow p' b1 b2 b3 k ≤ 1) : NodeAt u p' b1 b2 b3 K' V' C' := hb.frame h.fr hd
theorem Arr.none0 {w : World} {e : TypeId} {a : Option Addr} {n c : Nat} {xs : List Value} (h : Arr w e (.slice a n c) xs) : a = none → c = 0 := by
  obtain ⟨a', c', e', _, _, h'⟩ := h.form
  injection e' with e1 _ e3
  subst e1 e3
  exact h'
end Go.Proofs.Ytjoopjmcnkiieaa

/- del at a leaf; least. Conditions: the leaf is there, its keys rise. -/
namespace Go.Proofs.Ytjoopjmcnkiieaa
open Go.RowKit Go.Lib
set_option linter.unusedSimpArgs false
set_option linter.unusedVariables false

set_option maxHeartbeats 2000000 in
/-- How many keys a node must have. -/
theorem least_any {w : World} {p tb o : Nat} {v1 v2 v3 : Value} {K : List ByteArray} {V : List Int} {C : List Nat} (h : NodeAt w p v1 v2 v3 K V C) (ho : w.cell? ⟨tb, 0, none⟩ = some (.int .i64 o)) (ho2 : o ≤ 64) :
    Calls Try.prog 48 #[.pointer (some ⟨tb, 0, none⟩), .pointer (some ⟨p, 0, none⟩)] w fun e w' => e = .returned (.int .i64 (if C.isEmpty then (o + 1) / 2 else o / 2 : Nat)) ∧ w = w' := by
  have HL := Lib.hid (leaf_any h)
  have hw1 : IntKind.i64.wrap ((o : Int) + 1) = (o : Int) + 1 := IntWalk.i64_in _ (by omega)
  have hq1 : ((o : Int) + 1).tdiv 2 = (((o + 1) / 2 : Nat) : Int) := by rw [Int.tdiv_eq_ediv_of_nonneg (by omega)]; omega
  have hq2 : (o : Int).tdiv 2 = ((o / 2 : Nat) : Int) := by rw [Int.tdiv_eq_ediv_of_nonneg (by omega)]; omega
  have hw2 : IntKind.i64.wrap (((o + 1) / 2 : Nat) : Int) = (((o + 1) / 2 : Nat) : Int) := IntWalk.i64_in _ (by omega)
  have hw3 : IntKind.i64.wrap ((o / 2 : Nat) : Int) = ((o / 2 : Nat) : Int) := IntWalk.i64_in _ (by omega)
  clear h
  cases hC : C.isEmpty with
  | true =>
    rw [hC] at HL
    rw [if_pos rfl]
    generalize (o + 1) / 2 = m at *
    clear hC
    go_enter Try.func48, Try.ntmps48
    go_wp2_with fail
    refine HL.out.mono ?_; rintro e w' ⟨rfl, rfl⟩
    go_wp2_with fail
    (try go_ret)
    exact ⟨rfl, rfl⟩
  | false =>
    rw [hC] at HL
    rw [if_neg (by simp)]
    generalize o / 2 = m at *
    clear hC
    go_enter Try.func48, Try.ntmps48
    go_wp2_with fail
    refine HL.out.mono ?_; rintro e w' ⟨rfl, rfl⟩
    go_wp2_with fail
    (try go_ret)
    exact ⟨rfl, rfl⟩

/-- What del makes of a leaf. -/
def DelLeaf (p : Nat) (v1 v2 v3 : Value) (K : List ByteArray) (V : List Int) (key : ByteArray) (w : World) (e : Ending) (w' : World) : Prop :=
  ∃ (r : Nat) (v1' v2' : Value), r ≤ K.length ∧ (∀ (i : Nat) y, i < r → K[i]? = some y → ltS y key = true) ∧ (∀ (i : Nat) y, r ≤ i → K[i]? = some y → ltS y key = false) ∧ e = .returned (.bool (decide (K[r]? = some key))) ∧
    Fr (ow p v1 v2 v3) (ow p v1' v2' v3) w w' ∧
    if K[r]? = some key then NodeAt w' p v1' v2' v3 (K.eraseIdx r) (V.eraseIdx r) [] else NodeAt w' p v1' v2' v3 K V []
set_option maxRecDepth 100000 in
set_option maxHeartbeats 16000000 in
theorem del_leaf {w : World} {p tb : Nat} {v1 v2 v3 : Value} {K : List ByteArray} {V : List Int} (h : NodeAt w p v1 v2 v3 K V []) (h1 : ∀ k, ow p v1 v2 v3 k ≤ 1) (hs : SortedS K) (hl : K.length ≤ 1000) (hKV : V.length = K.length) (key : ByteArray) :
    Calls Try.prog 41 #[.pointer (some ⟨tb, 0, none⟩), .pointer (some ⟨p, 0, none⟩), .string key] w (DelLeaf p v1 v2 v3 K V key w) := by
  have HL := Lib.hid (leaf_any h)
  obtain ⟨a1, c1, e1, hrow⟩ := h.str
  obtain ⟨a2, c2, e2, _⟩ := h.r2.form
  rw [List.length_map] at e2
  subst e1 e2
  have HB := Lib.hid (bsearch_any K key a1 c1 w.heap.size w hrow (by omega) hs)
  have d0 := h.blk.cell (i := 0) rfl
  have d1 := h.blk.cell (i := 1) rfl
  have HST0 := St.start h h1
  have HH := Lib.hid h
  have HO := Lib.hid h1
  have HKV := Lib.hid hKV
  obtain ⟨n, hn⟩ : ∃ n, K.length = n := ⟨_, rfl⟩
  have HN := Lib.hid hn
  obtain ⟨Q, hQ⟩ : ∃ Q, DelLeaf p (.slice a1 K.length c1) (.slice a2 V.length c2) v3 K V key w = Q := ⟨_, rfl⟩
  have HQ := Lib.hid hQ
  rw [hQ]
  rw [hKV] at d1 HST0
  rw [hn] at d0 d1 HB HST0 hl
  clear h h1 hs hrow hKV hn hQ
  go_enter Try.func41, Try.ntmps41
  go_wp2_with fail
  refine HL.out.mono ?_; rintro e w' ⟨rfl, rfl⟩
  go_wp2_with fail
  refine HB.out.mono ?_; rintro e w' ⟨rfl, r, rfl, hr, hlo, hhi⟩
  have HLO := Lib.hid hlo
  have HHI := Lib.hid hhi
  have hrn : r ≤ n := by have := HN.out; omega
  have hrn2 : (r : Int) ≤ n := by omega
  have hr0 : (0 : Int) ≤ r := by omega
  have HR := Lib.hid hr
  clear hlo hhi hr
  by_cases hf : K[r]? = some key
  · have hlt : r < n := by have := (List.getElem?_eq_some_iff.1 hf).1; have := HN.out; omega
    have hlt' : (r : Int) < n := by omega
    obtain ⟨y, hy⟩ : ∃ y, V[r]? = some y := get_some (by have := HKV.out; have := HN.out; omega)
    obtain ⟨g2, rfl, _, _⟩ := HH.out.num hy
    obtain ⟨g1, rfl, _, _⟩ := HH.out.key hf
    have HF := Lib.hid hf
    have hw1 : IntKind.i64.wrap ((r : Int) + 1) = (r : Int) + 1 := IntWalk.i64_in _ (by omega)
    rw [decide_eq_true hf]
    clear hf hy
    have HFIN : Hid (∀ (w' : World), St w (ow p (.slice (some ⟨g1, 0, none⟩) K.length c1) (.slice (some ⟨g2, 0, none⟩) V.length c2) v3) w' p (.slice (some ⟨g1, 0, none⟩) (n - 1) c1) (.slice (some ⟨g2, 0, none⟩) (n - 1) c2) v3 (.slice (some ⟨g1, 0, none⟩) (n - 1) c1) (.slice (some ⟨g2, 0, none⟩) (n - 1) c2) v3 (K.eraseIdx r) (V.eraseIdx r) [] [] → Q (.returned (.bool true)) w') := Lib.hid (by
      intro w' hst
      rw [← HQ.out]
      refine ⟨r, _, _, HR.out, HLO.out, HHI.out, by rw [decide_eq_true HF.out], hst.fr, ?_⟩
      rw [if_pos HF.out]
      exact hst.end)
    have HRK : Hid (r < K.length ∧ K.length ≤ 1000000 ∧ r < V.length ∧ V.length ≤ 1000000) := Lib.hid (by have := HR.out; have := HKV.out; have := HN.out; omega)
    have HST1 : St w (ow p (.slice (some ⟨g1, 0, none⟩) K.length c1) (.slice (some ⟨g2, 0, none⟩) V.length c2) v3) w p (.slice (some ⟨g1, 0, none⟩) n c1) (.slice (some ⟨g2, 0, none⟩) n c2) v3 (.slice (some ⟨g1, 0, none⟩) n c1) (.slice (some ⟨g2, 0, none⟩) n c2) v3 K V [] [] := by
      have h0 := HST0
      rw [show ow p (.slice (some ⟨g1, 0, none⟩) n c1) (.slice (some ⟨g2, 0, none⟩) n c2) v3 = ow p (.slice (some ⟨g1, 0, none⟩) K.length c1) (.slice (some ⟨g2, 0, none⟩) V.length c2) v3 from by rw [HKV.out, HN.out]] at h0
      exact h0
    generalize ow p (.slice (some ⟨g1, 0, none⟩) K.length c1) (.slice (some ⟨g2, 0, none⟩) V.length c2) v3 = F0 at *
    have HST := HST1.drew
    clear HST0 HST1 HB HL HO
    go_wp2_with fail
    refine wp_region_noPanic ?_
    refine wp_region_J (S := fun u : World => u.cell? ⟨p, 0, none⟩ = some (.slice (some ⟨g1, 0, none⟩) n c1) ∧ u.cell? ⟨p, 1, none⟩ = some (.slice (some ⟨g2, 0, none⟩) n c2)) (fun j => j == 20 || j == 23) (by kernel_rfl) ?_
    obtain ⟨u0, hu0⟩ : ∃ u, w.drew = u := ⟨_, rfl⟩
    rw [hu0] at HST ⊢
    clear hu0
    have hHeld : (fun u : World => u.cell? ⟨p, 0, none⟩ = some (.slice (some ⟨g1, 0, none⟩) n c1) ∧ u.cell? ⟨p, 1, none⟩ = some (.slice (some ⟨g2, 0, none⟩) n c2)) u0 := ⟨HST.cell.1, HST.cell.2.1⟩
    refine wpAnyJ_take0 (i := 0) (v := ?_) rfl (by kernel_rfl) (by kernel_rfl) (by kernel_rfl) (fun _ _ _ h => h) (Or.inl ⟨by rfl, ?_⟩) ?_
    rotate_left
    focus ((intro w hSw; clear hSw; go_simp); try with_reducible rfl)
    (try simp only [Act.put, List.getElem_toArray, List.getElem_cons_zero, List.getElem_cons_succ, List.setIfInBounds_toArray, List.set_cons_zero, List.set_cons_succ])
    refine wpAnyJ_take0 (i := 1) (v := ?_) rfl (by kernel_rfl) (by kernel_rfl) (by kernel_rfl) (fun _ _ _ h => h) (Or.inl ⟨by rfl, ?_⟩) ?_
    rotate_left
    focus ((intro w hSw; clear hSw; go_simp); try with_reducible rfl)
    (try simp only [Act.put, List.getElem_toArray, List.getElem_cons_zero, List.getElem_cons_succ, List.setIfInBounds_toArray, List.set_cons_zero, List.set_cons_succ])
    refine wpAnyJ_take0 (i := 2) (v := ?_) rfl (by kernel_rfl) (by kernel_rfl) (by kernel_rfl) (fun _ _ _ h => h) (Or.inl ⟨by rfl, ?_⟩) ?_
    rotate_left
    focus ((intro w hSw; clear hSw; go_simp); try with_reducible rfl)
    (try simp only [Act.put, List.getElem_toArray, List.getElem_cons_zero, List.getElem_cons_succ, List.setIfInBounds_toArray, List.set_cons_zero, List.set_cons_succ])
    refine wpAnyJ_take0 (i := 3) (v := ?_) rfl (by kernel_rfl) (by kernel_rfl) (by kernel_rfl) (fun _ _ _ h => h) (Or.inl ⟨by rfl, ?_⟩) ?_
    rotate_left
    focus ((intro w hSw; clear hSw; go_simp); try with_reducible rfl)
    (try simp only [Act.put, List.getElem_toArray, List.getElem_cons_zero, List.getElem_cons_succ, List.setIfInBounds_toArray, List.set_cons_zero, List.set_cons_succ])
    refine wpAnyJ_take0 (i := 4) (v := ?_) rfl (by kernel_rfl) (by kernel_rfl) (by kernel_rfl) (fun _ _ _ h => h) (Or.inl ⟨by rfl, ?_⟩) ?_
    rotate_left
    focus ((intro w hSw; clear hSw; go_simp); try with_reducible rfl)
    (try simp only [Act.put, List.getElem_toArray, List.getElem_cons_zero, List.getElem_cons_succ, List.setIfInBounds_toArray, List.set_cons_zero, List.set_cons_succ])
    refine wpAnyJ_take (i := 5) (v := ?_) rfl (by kernel_rfl) (by kernel_rfl) (by kernel_rfl) (by kernel_rfl) (fun _ _ _ h => h) (Or.inl ⟨by rfl, ?_⟩) (by assumption) ?_
    rotate_left
    focus ((intro w hSw; (try dsimp only at hSw); go_simp); try with_reducible rfl)
    (try simp only [Act.put, List.getElem_toArray, List.getElem_cons_zero, List.getElem_cons_succ, List.setIfInBounds_toArray, List.set_cons_zero, List.set_cons_succ])
    refine wpAnyJ_take0 (i := 6) (v := ?_) rfl (by kernel_rfl) (by kernel_rfl) (by kernel_rfl) (fun _ _ _ h => h) (Or.inl ⟨by rfl, ?_⟩) ?_
    rotate_left
    focus ((intro w hSw; clear hSw; go_simp); try with_reducible rfl)
    (try simp only [Act.put, List.getElem_toArray, List.getElem_cons_zero, List.getElem_cons_succ, List.setIfInBounds_toArray, List.set_cons_zero, List.set_cons_succ])
    refine wpAnyJ_take0 (i := 7) (v := ?_) rfl (by kernel_rfl) (by kernel_rfl) (by kernel_rfl) (fun _ _ _ h => h) (Or.inl ⟨by rfl, ?_⟩) ?_
    rotate_left
    focus ((intro w hSw; clear hSw; go_simp); try with_reducible rfl)
    (try simp only [Act.put, List.getElem_toArray, List.getElem_cons_zero, List.getElem_cons_succ, List.setIfInBounds_toArray, List.set_cons_zero, List.set_cons_succ])
    refine wpAnyJ_take0 (i := 8) (v := ?_) rfl (by kernel_rfl) (by kernel_rfl) (by kernel_rfl) (fun _ _ _ h => h) (Or.inl ⟨by rfl, ?_⟩) ?_
    rotate_left
    focus ((intro w hSw; clear hSw; go_simp); try with_reducible rfl)
    (try simp only [Act.put, List.getElem_toArray, List.getElem_cons_zero, List.getElem_cons_succ, List.setIfInBounds_toArray, List.set_cons_zero, List.set_cons_succ])
    refine wpAnyJ_take0 (i := 10) (v := ?_) rfl (by kernel_rfl) (by kernel_rfl) (by kernel_rfl) (fun _ _ _ h => h) (Or.inl ⟨by rfl, ?_⟩) ?_
    rotate_left
    focus ((intro w hSw; clear hSw; go_simp); try with_reducible rfl)
    (try simp only [Act.put, List.getElem_toArray, List.getElem_cons_zero, List.getElem_cons_succ, List.setIfInBounds_toArray, List.set_cons_zero, List.set_cons_succ])
    refine wpAnyJ_take0 (i := 11) (v := ?_) rfl (by kernel_rfl) (by kernel_rfl) (by kernel_rfl) (fun _ _ _ h => h) (Or.inl ⟨by rfl, ?_⟩) ?_
    rotate_left
    focus ((intro w hSw; clear hSw; go_simp); try with_reducible rfl)
    (try simp only [Act.put, List.getElem_toArray, List.getElem_cons_zero, List.getElem_cons_succ, List.setIfInBounds_toArray, List.set_cons_zero, List.set_cons_succ])
    refine wpAnyJ_take0 (i := 12) (v := ?_) rfl (by kernel_rfl) (by kernel_rfl) (by kernel_rfl) (fun _ _ _ h => h) (Or.inl ⟨by rfl, ?_⟩) ?_
    rotate_left
    focus ((intro w hSw; clear hSw; go_simp); try with_reducible rfl)
    (try simp only [Act.put, List.getElem_toArray, List.getElem_cons_zero, List.getElem_cons_succ, List.setIfInBounds_toArray, List.set_cons_zero, List.set_cons_succ])
    refine wpAnyJ_take (i := 13) (v := ?_) rfl (by kernel_rfl) (by kernel_rfl) (by kernel_rfl) (by kernel_rfl) (fun _ _ _ h => h) (Or.inl ⟨by rfl, ?_⟩) (by assumption) ?_
    rotate_left
    focus ((intro w hSw; (try dsimp only at hSw); go_simp); try with_reducible rfl)
    (try simp only [Act.put, List.getElem_toArray, List.getElem_cons_zero, List.getElem_cons_succ, List.setIfInBounds_toArray, List.set_cons_zero, List.set_cons_succ])
    refine wpAnyJ_take0 (i := 14) (v := ?_) rfl (by kernel_rfl) (by kernel_rfl) (by kernel_rfl) (fun _ _ _ h => h) (Or.inl ⟨by rfl, ?_⟩) ?_
    rotate_left
    focus ((intro w hSw; clear hSw; go_simp); try with_reducible rfl)
    (try simp only [Act.put, List.getElem_toArray, List.getElem_cons_zero, List.getElem_cons_succ, List.setIfInBounds_toArray, List.set_cons_zero, List.set_cons_succ])
    refine wpAnyJ_take0 (i := 15) (v := ?_) rfl (by kernel_rfl) (by kernel_rfl) (by kernel_rfl) (fun _ _ _ h => h) (Or.inl ⟨by rfl, ?_⟩) ?_
    rotate_left
    focus ((intro w hSw; clear hSw; go_simp); try with_reducible rfl)
    (try simp only [Act.put, List.getElem_toArray, List.getElem_cons_zero, List.getElem_cons_succ, List.setIfInBounds_toArray, List.set_cons_zero, List.set_cons_succ])
    refine wpAnyJ_take0 (i := 16) (v := ?_) rfl (by kernel_rfl) (by kernel_rfl) (by kernel_rfl) (fun _ _ _ h => h) (Or.inl ⟨by rfl, ?_⟩) ?_
    rotate_left
    focus ((intro w hSw; clear hSw; go_simp); try with_reducible rfl)
    (try simp only [Act.put, List.getElem_toArray, List.getElem_cons_zero, List.getElem_cons_succ, List.setIfInBounds_toArray, List.set_cons_zero, List.set_cons_succ])
    refine wpAnyJ_ready (rs := [9]) (by kernel_rfl) (by simp) ?_
    refine AllReadyJ.cons rfl (fun KK hKK => ?_) AllReadyJ.nil
    go_simp
    go_at_call 52
    refine (HST.del1 (i := r) HRK.out.1 HRK.out.2.1 ((r : Int) + 1) rfl r rfl).mono ?_
    rintro e u1 ⟨rfl, HST2⟩
    clear HST
    have HST := HST2
    clear HST2
    have hH2 : (fun u : World => u.cell? ⟨p, 0, none⟩ = some (.slice (some ⟨g1, 0, none⟩) n c1) ∧ u.cell? ⟨p, 1, none⟩ = some (.slice (some ⟨g2, 0, none⟩) n c2)) u1 := ⟨HST.cell.1, HST.cell.2.1⟩
    refine hKK.out _ _ (fun _ _ => hH2) ?_
    clear hKK KK
    clear hHeld
    have hHeld := hH2
    clear hH2 u0
    revert u1
    intro u0 HST hHeld
    (try simp only [Act.put, List.getElem_toArray, List.getElem_cons_zero, List.getElem_cons_succ, List.setIfInBounds_toArray, List.set_cons_zero, List.set_cons_succ])
    refine wpAnyJ_ready (rs := [17]) (by kernel_rfl) (by simp) ?_
    refine AllReadyJ.cons rfl (fun KK hKK => ?_) AllReadyJ.nil
    go_simp
    go_at_call 53
    refine (HST.del2 (i := r) HRK.out.2.2.1 HRK.out.2.2.2 ((r : Int) + 1) rfl r rfl).mono ?_
    rintro e u1 ⟨rfl, HST2⟩
    clear HST
    have HST := HST2
    clear HST2
    have hH2 : (fun u : World => u.cell? ⟨p, 0, none⟩ = some (.slice (some ⟨g1, 0, none⟩) n c1) ∧ u.cell? ⟨p, 1, none⟩ = some (.slice (some ⟨g2, 0, none⟩) n c2)) u1 := ⟨HST.cell.1, HST.cell.2.1⟩
    refine hKK.out _ _ (fun _ _ => hH2) ?_
    clear hKK KK
    clear hHeld
    have hHeld := hH2
    clear hH2 u0
    revert u1
    intro u0 HST hHeld
    (try simp only [Act.put, List.getElem_toArray, List.getElem_cons_zero, List.getElem_cons_succ, List.setIfInBounds_toArray, List.set_cons_zero, List.set_cons_succ])
    refine wpAnyJ_take0 (i := 18) (v := ?_) rfl (by kernel_rfl) (by kernel_rfl) (by kernel_rfl) (fun _ _ _ h => h) (Or.inl ⟨by rfl, ?_⟩) ?_
    rotate_left
    focus ((intro w hSw; clear hSw; go_simp); try with_reducible rfl)
    (try simp only [Act.put, List.getElem_toArray, List.getElem_cons_zero, List.getElem_cons_succ, List.setIfInBounds_toArray, List.set_cons_zero, List.set_cons_succ])
    refine wpAnyJ_take0 (i := 19) (v := ?_) rfl (by kernel_rfl) (by kernel_rfl) (by kernel_rfl) (fun _ _ _ h => h) (Or.inl ⟨by rfl, ?_⟩) ?_
    rotate_left
    focus ((intro w hSw; clear hSw; go_simp); try with_reducible rfl)
    (try simp only [Act.put, List.getElem_toArray, List.getElem_cons_zero, List.getElem_cons_succ, List.setIfInBounds_toArray, List.set_cons_zero, List.set_cons_succ])
    refine wpAnyJ_ready (rs := [20]) (by kernel_rfl) (by simp) ?_
    refine AllReadyJ.cons rfl (fun KK hKK => ?_) AllReadyJ.nil
    have hz1 := HST.cell.2.2.2 0
    have hz2 := HST.cell.1
    go_simp
    clear hz1 hz2
    replace HST := HST.put0 (.slice (some ⟨g1, 0, none⟩) (n - 1) c1)
    refine hKK.out _ _ (fun h => absurd h (by decide)) ?_
    clear hKK KK
    generalize u0.setCell ⟨p, 0, none⟩ (.slice (some ⟨g1, 0, none⟩) (n - 1) c1) = u1 at HST ⊢
    (try clear hHeld)
    clear u0
    revert u1
    intro u0 HST
    (try simp only [Act.put, List.getElem_toArray, List.getElem_cons_zero, List.getElem_cons_succ, List.setIfInBounds_toArray, List.set_cons_zero, List.set_cons_succ])
    refine wpAnyJ_take0 (i := 21) (v := ?_) rfl (by kernel_rfl) (by kernel_rfl) (by kernel_rfl) (fun _ _ _ h => h) (Or.inl ⟨by rfl, ?_⟩) ?_
    rotate_left
    focus ((intro w hSw; clear hSw; go_simp); try with_reducible rfl)
    (try simp only [Act.put, List.getElem_toArray, List.getElem_cons_zero, List.getElem_cons_succ, List.setIfInBounds_toArray, List.set_cons_zero, List.set_cons_succ])
    refine wpAnyJ_take0 (i := 22) (v := ?_) rfl (by kernel_rfl) (by kernel_rfl) (by kernel_rfl) (fun _ _ _ h => h) (Or.inl ⟨by rfl, ?_⟩) ?_
    rotate_left
    focus ((intro w hSw; clear hSw; go_simp); try with_reducible rfl)
    (try simp only [Act.put, List.getElem_toArray, List.getElem_cons_zero, List.getElem_cons_succ, List.setIfInBounds_toArray, List.set_cons_zero, List.set_cons_succ])
    refine wpAnyJ_ready (rs := [23]) (by kernel_rfl) (by simp) ?_
    refine AllReadyJ.cons rfl (fun KK hKK => ?_) AllReadyJ.nil
    have hz1 := HST.cell.2.2.2 1
    have hz2 := HST.cell.2.1
    go_simp
    clear hz1 hz2
    replace HST := HST.put1 (.slice (some ⟨g2, 0, none⟩) (n - 1) c2)
    refine hKK.out _ _ (fun h => absurd h (by decide)) ?_
    clear hKK KK
    generalize u0.setCell ⟨p, 1, none⟩ (.slice (some ⟨g2, 0, none⟩) (n - 1) c2) = u1 at HST ⊢
    (try clear hHeld)
    clear u0
    revert u1
    intro u0 HST
    (try simp only [Act.put, List.getElem_toArray, List.getElem_cons_zero, List.getElem_cons_succ, List.setIfInBounds_toArray, List.set_cons_zero, List.set_cons_succ])
    refine wpAnyJ_done (by kernel_rfl) ?_ _
    refine NoPanic.normal ?_
    go_wp2_with fail
    exact HFIN.out _ HST
  · have HF := Lib.hid hf
    rw [decide_eq_false hf]
    clear hf HST0
    go_wp2_with fail
    rw [← HQ.out]
    refine ⟨r, _, _, HR.out, HLO.out, HHI.out, by rw [decide_eq_false HF.out]; rfl, Fr.refl HO.out HH.out.hi, ?_⟩
    rw [if_neg HF.out]
    exact HH.out
end Go.Proofs.Ytjoopjmcnkiieaa

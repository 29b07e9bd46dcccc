/- The law's play: what its state keeps to; the book's acts within it. Conditions: none. -/
import Derived.Test.YtaonfacbmolklaaPlayQ
namespace Go.Proofs.Ytaonfacbmolklaa
open Go.RowKit
set_option linter.unusedSimpArgs false
set_option linter.unusedVariables false

theorem last_open (bk : Bk) (who at_ : Int) : (openB bk who at_).2.last = bk.last := by
  unfold openB
  split
  · rfl
  · split <;> rfl
theorem last_read (bk : Bk) (who : Int) (l : List ByteArray) : (readB bk who l).2.last = bk.last := by
  unfold readB
  split <;> rfl
theorem last_touch (bk : Bk) (who : Int) (l : List ByteArray) : (touchB bk who l).2.last = bk.last := by
  unfold touchB
  split <;> rfl
theorem last_drop (bk : Bk) (who : Int) : (dropB bk who).2.last = bk.last := by
  unfold dropB
  split <;> rfl
theorem last_close (bk : Bk) (who en : Int) : (closeB bk who en).2.last = bk.last ∨ (closeB bk who en).2.last = en := by
  unfold closeB
  split
  · exact .inl rfl
  · split
    · exact .inl rfl
    · split
      · exact .inl (last_drop bk who)
      · exact .inr rfl
structure PInv (j : Nat) (s : PS) : Prop where
  ok : OkBk j s.bk
  le : s.bk.last ≤ j
  dn : s.done.length ≤ j
  lim : ∀ who d, s.act who = some d → d.reads.length ≤ j * 1048576 ∧ d.touches.length ≤ j * 1048576
  dlim : ∀ d ∈ s.done, d.reads.length ≤ j * 1048576 ∧ d.touches.length ≤ j * 1048576
def s0 : PS := ⟨⟨[], 0⟩, fun _ => none, []⟩
def playS (os : List Op) (j : Nat) : PS := (os.take j).foldl stepP s0
theorem playS_zero (os : List Op) : playS os 0 = s0 := rfl
theorem playS_succ {os : List Op} {j : Nat} {o : Op} (h : os[j]? = some o) : playS os (j + 1) = stepP (playS os j) o := by
  unfold playS
  rw [List.take_add_one, h, List.foldl_append]
  rfl
theorem playS_end {os : List Op} {j : Nat} (h : os.length ≤ j) : playS os j = playS os 120 ∨ 120 < j := by
  by_cases h1 : 120 < j
  · exact .inr h1
  · left
    unfold playS
    rw [List.take_of_length_le h, List.take_of_length_le (by omega)]
theorem ups_some {α : Type} {f : Int → Option α} {who y : Int} {x : Option α} {d : α} (h : ups f who x y = some d) : (y = who ∧ x = some d) ∨ f y = some d := by
  unfold ups at h
  split at h
  · rename_i e; exact .inl ⟨e, h⟩
  · exact .inr h
theorem PInv.start : PInv 0 s0 := ⟨okBk_new, Int.le_refl _, Nat.le_refl _, fun _ _ h => by simp [s0] at h, fun _ h => by simp [s0] at h⟩
theorem PInv.step {j : Nat} {s : PS} (h : PInv j s) (o : Op) (hl : o.l.length ≤ 1048576) : PInv (j + 1) (stepP s o) := by
  have hle := h.le
  have hdn := h.dn
  have hK : j * 1048576 ≤ (j + 1) * 1048576 := Nat.mul_le_mul_right _ (Nat.le_succ j)
  have hK2 : (j + 1) * 1048576 = j * 1048576 + 1048576 := Nat.succ_mul _ _
  have hlim : ∀ who d, s.act who = some d → d.reads.length ≤ (j + 1) * 1048576 ∧ d.touches.length ≤ (j + 1) * 1048576 := fun who d hd => ⟨Nat.le_trans (h.lim who d hd).1 hK, Nat.le_trans (h.lim who d hd).2 hK⟩
  have hdl : ∀ d ∈ s.done, d.reads.length ≤ (j + 1) * 1048576 ∧ d.touches.length ≤ (j + 1) * 1048576 := fun d hd => ⟨Nat.le_trans (h.dlim d hd).1 hK, Nat.le_trans (h.dlim d hd).2 hK⟩
  have hup : ∀ who who' d, ups s.act who' none who = some d → d.reads.length ≤ (j + 1) * 1048576 ∧ d.touches.length ≤ (j + 1) * 1048576 := fun who who' d hd => by
    rcases ups_some hd with ⟨_, e⟩ | e
    · cases e
    · exact hlim who d e
  unfold stepP
  split
  · refine ⟨h.ok.open_ o.who s.bk.last, by rw [last_open]; omega, by show s.done.length ≤ _; omega, fun who d hd => ?_, hdl⟩
    replace hd : (if (openB s.bk o.who s.bk.last).1 = 0 then ups s.act o.who (some ⟨s.bk.last, 0, [], []⟩) else s.act) who = some d := hd
    split at hd
    · rcases ups_some hd with ⟨_, e⟩ | e
      · cases e; exact ⟨Nat.zero_le _, Nat.zero_le _⟩
      · exact hlim who d e
    · exact hlim who d hd
  · split
    · refine ⟨h.ok.read o.who o.l hl, by rw [last_read]; omega, by show s.done.length ≤ _; omega, fun who d hd => ?_, hdl⟩
      replace hd : (if (readB s.bk o.who o.l).1 = 0 then addR s.act o.who o.l else s.act) who = some d := hd
      split at hd
      · unfold addR at hd
        cases h0 : s.act o.who with
        | none =>
          rw [h0] at hd
          exact hlim who d hd
        | some d0 =>
          rw [h0] at hd
          rcases ups_some hd with ⟨_, e⟩ | e
          · cases e
            have h1 := h.lim _ _ h0
            simp only [List.length_append]
            exact ⟨Nat.le_trans (Nat.add_le_add h1.1 hl) (Nat.le_of_eq hK2.symm), Nat.le_trans h1.2 hK⟩
          · exact hlim who d e
      · exact hlim who d hd
    · split
      · refine ⟨h.ok.touch o.who o.l hl, by rw [last_touch]; omega, by show s.done.length ≤ _; omega, fun who d hd => ?_, hdl⟩
        replace hd : (if (touchB s.bk o.who o.l).1 = 0 then addT s.act o.who o.l else s.act) who = some d := hd
        split at hd
        · unfold addT at hd
          cases h0 : s.act o.who with
          | none =>
            rw [h0] at hd
            exact hlim who d hd
          | some d0 =>
            rw [h0] at hd
            rcases ups_some hd with ⟨_, e⟩ | e
            · cases e
              have h1 := h.lim _ _ h0
              simp only [List.length_append]
              exact ⟨Nat.le_trans h1.1 hK, Nat.le_trans (Nat.add_le_add h1.2 hl) (Nat.le_of_eq hK2.symm)⟩
            · exact hlim who d e
        · exact hlim who d hd
      · split
        · refine ⟨(h.ok.close o.who (s.bk.last + 1)).mono (by omega), ?_, ?_, fun who d hd => hup who o.who d hd, fun d hd => ?_⟩
          · rcases last_close s.bk o.who (s.bk.last + 1) with e | e
            · rw [e]; omega
            · rw [e]; omega
          · show (if _ then _ else _ : List D).length ≤ _
            split
            · unfold addD
              split
              · simp only [List.length_append, List.length_singleton]; omega
              · omega
            · omega
          · replace hd : d ∈ (if (closeB s.bk o.who (s.bk.last + 1)).1 = 0 then addD s.act s.done o.who (s.bk.last + 1) else s.done) := hd
            split at hd
            · unfold addD at hd
              split at hd
              · rename_i d0 h0
                rcases List.mem_append.1 hd with hd | hd
                · exact hdl d hd
                · obtain rfl := List.mem_singleton.1 hd
                  have := hlim _ _ h0
                  exact this
              · exact hdl d hd
            · exact hdl d hd
        · split
          · exact ⟨(h.ok.drop o.who).mono (by omega), by rw [last_drop]; omega, by show s.done.length ≤ _; omega, fun who d hd => hup who o.who d hd, hdl⟩
          · exact ⟨h.ok.mono (by omega), by omega, by omega, hlim, hdl⟩
theorem PInv.play (os : List Op) (hl : ∀ o ∈ os, o.l.length ≤ 1048576) (j : Nat) (hj : j ≤ os.length) : PInv j (playS os j) := by
  induction j with
  | zero => exact PInv.start
  | succ j ih =>
    have hx : os[j]? = some os[j] := List.getElem?_eq_getElem (by omega)
    rw [playS_succ hx]
    exact (ih (by omega)).step _ (hl _ (List.getElem_mem _))
section
variable {W u0 u : World} {P M n j ob : Nat} {S : Nat → Prop} {bk : Bk} {act : Int → Option D} {ps : Int → Nat} {dv : Value} {done : List D} {cs : List Value}
theorem PQO.world (hb : Below W.heap.size W u0) (h : PQO u0 W.heap.size P M S ob cs bk act ps dv done n u) : Below W.heap.size W u := by
  obtain ⟨⟨S1, N, vs, tag, g, zs, h1, h2, h3, h4, h5, h6, h7, h8, h9⟩, _⟩ := h
  exact hb.trans (h7.below h8 h9)
theorem PQ.world {X : Nat → Prop} (hb : Below W.heap.size W u0) (h : PQ u0 W.heap.size P M S X bk act ps dv done n u) : Below W.heap.size W u := by
  obtain ⟨S1, N, vs, tag, g, zs, h1, h2, h3, h4, h5, h6, h7, h8, h9⟩ := h
  exact hb.trans (h7.below h8 h9)
theorem pq_open (who at_ : Int) (h : PQO u0 W.heap.size P M S ob cs bk act ps dv done n u) (ho : OkBk j bk) (hj : j ≤ 1000) : Calls Try.prog 8 #[.pointer (some ⟨P, 0, none⟩), .int .i64 who, .int .i64 at_] u fun e w' => e = .returned (.int .i64 (openB bk who at_).1) ∧ PQO u0 W.heap.size P M S ob cs (openB bk who at_).2 act ps dv done n w' :=
  h.book fun S1 h1 _ => (open_any u W.heap.size P bk S1 who at_ h1 (by have := ho.len; omega)).mono fun e w' h => h
theorem pq_read (who : Int) {l : List ByteArray} {ma : Option Addr} (mc : Nat) (hb : Below W.heap.size W u0) (h : PQO u0 W.heap.size P M S ob cs bk act ps dv done n u) (ho : OkBk j bk) (hj : j ≤ 1000) (hm : StrRow W.heap.size W ma l) (hl : l.length ≤ 1048576) : Calls Try.prog 10 #[.pointer (some ⟨P, 0, none⟩), .int .i64 who, .slice ma l.length mc] u fun e w' => e = .returned (.int .i64 (readB bk who l).1) ∧ PQO u0 W.heap.size P M S ob cs (readB bk who l).2 act ps dv done n w' :=
  h.book fun S1 h1 hs => (read_any u W.heap.size P bk S1 who l ma mc h1 (fun w' hk => row_below hm ((h.world hb).trans (hk.below (fun x hx => (hs x hx).1) (h.world hb).size))) (by have := ho.len; omega) (fun e he => ⟨(ho.srt e he).1, by have := (ho.lim e he).1; omega⟩) (by omega)).mono fun e w' h => h
theorem pq_touch (who : Int) {l : List ByteArray} {ma : Option Addr} (mc : Nat) (hb : Below W.heap.size W u0) (h : PQO u0 W.heap.size P M S ob cs bk act ps dv done n u) (ho : OkBk j bk) (hj : j ≤ 1000) (hm : StrRow W.heap.size W ma l) (hl : l.length ≤ 1048576) : Calls Try.prog 12 #[.pointer (some ⟨P, 0, none⟩), .int .i64 who, .slice ma l.length mc] u fun e w' => e = .returned (.int .i64 (touchB bk who l).1) ∧ PQO u0 W.heap.size P M S ob cs (touchB bk who l).2 act ps dv done n w' :=
  h.book fun S1 h1 hs => (touch_any u W.heap.size P bk S1 who l ma mc h1 (fun w' hk => row_below hm ((h.world hb).trans (hk.below (fun x hx => (hs x hx).1) (h.world hb).size))) (by have := ho.len; omega) (fun e he => ⟨(ho.srt e he).2, by have := (ho.lim e he).2; omega⟩) (by omega)).mono fun e w' h => h
theorem pq_close (who end_ : Int) (h : PQO u0 W.heap.size P M S ob cs bk act ps dv done n u) (ho : OkBk j bk) (hj : j ≤ 1000) : Calls Try.prog 14 #[.pointer (some ⟨P, 0, none⟩), .int .i64 who, .int .i64 end_] u fun e w' => e = .returned (.int .i64 (closeB bk who end_).1) ∧ PQO u0 W.heap.size P M S ob cs (closeB bk who end_).2 act ps dv done n w' :=
  h.book fun S1 h1 _ => (close_any u W.heap.size P bk S1 who end_ h1 (by have := ho.len; omega) (ho.small hj) ho.out).mono fun e w' h => h
theorem pq_drop (who : Int) (h : PQO u0 W.heap.size P M S ob cs bk act ps dv done n u) (ho : OkBk j bk) (hj : j ≤ 1000) : Calls Try.prog 16 #[.pointer (some ⟨P, 0, none⟩), .int .i64 who] u fun e w' => e = .returned (.int .i64 (dropB bk who).1) ∧ PQO u0 W.heap.size P M S ob cs (dropB bk who).2 act ps dv done n w' :=
  h.book fun S1 h1 _ => (drop_any u W.heap.size P bk S1 who h1 (by have := ho.len; omega)).mono fun e w' h => h
theorem pq_last (h : PQO u0 W.heap.size P M S ob cs bk act ps dv done n u) : Calls Try.prog 21 #[.pointer (some ⟨P, 0, none⟩)] u fun e w' => e = .returned (.int .i64 bk.last) ∧ u = w' := by
  obtain ⟨⟨S1, N, vs, tag, g, zs, ⟨tg, lv, rs, h1, _⟩, _⟩, _⟩ := h
  exact last_any u W.heap.size P bk tg lv rs h1
theorem kq_ok {x : Int} (h : in64 x) : (KQ).ok x := by
  show (decide _ && decide _) = true
  rw [Bool.and_eq_true]
  exact ⟨decide_eq_true h.1, decide_eq_true h.2⟩
/-- The play's beginning. -/
theorem pq_start (hb : Below W.heap.size W u0) (h : BookAt u0 W.heap.size P ⟨[], 0⟩ S) (hS : ∀ k, S k → W.heap.size ≤ k ∧ k < u0.heap.size) :
    PQ u0 W.heap.size P u0.heap.size S (fun _ => False) ⟨[], 0⟩ (fun _ => none) (fun _ => 0) (.slice none 0 0) [] 0 (u0.alloc (.map #[] 0)) := by
  have hb1 : Below u0.heap.size u0 (u0.alloc (.map #[] 0)) := (Below.refl _ _).alloc (Nat.le_refl _) _
  have hz : (u0.alloc (.map #[] 0)).heap.size = u0.heap.size + 1 := by simp
  refine ⟨S, fun k => k = u0.heap.size, fun _ => (.slice none 0 0, .slice none 0 0), fun k => (k, 0), fun _ => none, [], h.below hb1, ⟨MapIs.made u0 KQ, fun _ => rfl, rfl, rfl, fun k => Nat.le_refl _, (fun k hk => by omega), (fun _ _ h => by cases h), (fun _ _ h => by cases h), (fun _ _ _ _ h => by cases h), World.ownsRow_nil _ _ _ _, (fun k e => by cases e), (fun z hz => by cases hz)⟩, rfl, fun k hk => ?_, fun _ _ h => h, fun _ h => h.elim, KeptS.of_below hb1, fun k hk => (hS k hk).1, hb.size⟩
  have := hS k hk
  exact ⟨by omega, this.1, by omega, fun h => h, .inl hk⟩
end
end Go.Proofs.Ytaonfacbmolklaa

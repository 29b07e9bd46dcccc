/- Layer 24: one act on a chain of the program and on one of the reference: they answer the same and are the same again. Conditions: both are there. -/
import Derived.Test.YtelmaaokaakpbaaR7
namespace Go.Proofs.Ytelmaaokaakpbaa
open Go.RowKit
set_option linter.unusedSimpArgs false
set_option linter.unusedVariables false

/-- A chain of the program and one of the reference that share no block, in blocks that were not in W; in block pb lies the act. -/
def Duo (W : World) (b1 b2 : Nat) (s1 s2 : St) (pb : Nat) (o : Act4) (w : World) : Prop :=
  ∃ o1 o2, Rep w W.heap.size b1 o1 s1 ∧ RRep w W.heap.size b2 o2 s2 ∧ (∀ k ∈ o1, k ∉ o2) ∧ (pb ∉ o1 ∧ pb ∉ o2) ∧ Block w pb o.cells 27 ∧ Below W.heap.size W w
theorem Duo.left {W w w' : World} {b1 b2 pb : Nat} {s1 s1' s2 : St} {o : Act4} {o1 o2 : List Nat} (h1 : Rep w W.heap.size b1 o1 s1) (h2 : RRep w W.heap.size b2 o2 s2) (h3 : ∀ k ∈ o1, k ∉ o2) (h4 : pb ∉ o1 ∧ pb ∉ o2) (h5 : Block w pb o.cells 27)
    (h6 : Below W.heap.size W w) (hm : Moved W.heap.size b1 o1 s1' w w') : Duo W b1 b2 s1' s2 pb o w' := by
  obtain ⟨o', a1, a2, a3⟩ := hm
  refine ⟨o', o2, a1, h2.kept a3 (fun k hk hk1 => h3 k hk1 hk), fun k hk hk2 => ?_, ⟨fun hk => ?_, h4.2⟩, h5.of_heap (a3.block _ h5.lt h4.1), h6.trans (a3.below (fun x hx => (h1.own_lt x hx).1) h6.size)⟩
  · rcases a2 k hk with h | h
    · exact h3 k h hk2
    · have := (h2.own_lt k hk2).2; omega
  · rcases a2 _ hk with h | h
    · exact h4.1 h
    · have := h5.lt; omega
theorem Duo.right {W w w' : World} {b1 b2 pb : Nat} {s1 s2 s2' : St} {o : Act4} {o1 o2 : List Nat} (h1 : Rep w W.heap.size b1 o1 s1) (h2 : RRep w W.heap.size b2 o2 s2) (h3 : ∀ k ∈ o1, k ∉ o2) (h4 : pb ∉ o1 ∧ pb ∉ o2) (h5 : Block w pb o.cells 27)
    (h6 : Below W.heap.size W w) (hm : RMoved W.heap.size b2 o2 s2' w w') : Duo W b1 b2 s1 s2' pb o w' := by
  obtain ⟨o', a1, a2, a3⟩ := hm
  refine ⟨o1, o', h1.kept a3 (fun k hk hk1 => h3 k hk hk1), a1, fun k hk hk2 => ?_, ⟨h4.1, fun hk => ?_⟩, h5.of_heap (a3.block _ h5.lt h4.2), h6.trans (a3.below (fun x hx => (h2.own_lt x hx).1) h6.size)⟩
  · rcases a2 k hk2 with h | h
    · exact h3 k hk h
    · have := (h1.own_lt k hk).2; omega
  · rcases a2 _ hk with h | h
    · exact h4.2 h
    · have := h5.lt; omega
theorem Duo.drew {W w : World} {b1 b2 pb : Nat} {s1 s2 : St} {o : Act4} (h : Duo W b1 b2 s1 s2 pb o w) : Duo W b1 b2 s1 s2 pb o w.drew := by
  obtain ⟨o1, o2, h1, h2, h3, h4, h5, h6⟩ := h
  exact ⟨o1, o2, h1.of_heap fun _ _ => rfl, h2.of_heap fun _ _ => rfl, h3, h4, h5, h6.drew⟩
theorem Duo.cells {W w : World} {b1 b2 pb : Nat} {s1 s2 : St} {o : Act4} (h : Duo W b1 b2 s1 s2 pb o w) :
    w.cell? ⟨pb, 1, none⟩ = some (.int .i64 o.who) ∧ w.cell? ⟨pb, 2, none⟩ = some (.int .i64 o.at_) ∧ w.cell? ⟨pb, 3, none⟩ = some (.int .i64 o.v) := by
  obtain ⟨o1, o2, h1, h2, h3, h4, h5, h6⟩ := h
  exact ⟨h5.cell (i := 1) rfl, h5.cell (i := 2) rfl, h5.cell (i := 3) rfl⟩
/-- Both are there and are the same. -/
def Two (W : World) (b1 b2 : Nat) (s : St) (w : World) : Prop :=
  ∃ o1 o2, Rep w W.heap.size b1 o1 s ∧ RRep w W.heap.size b2 o2 s ∧ (∀ k ∈ o1, k ∉ o2) ∧ Below W.heap.size W w
theorem Duo.two {W w : World} {b1 b2 pb : Nat} {s : St} {o : Act4} (h : Duo W b1 b2 s s pb o w) : Two W b1 b2 s w := by
  obtain ⟨o1, o2, h1, h2, h3, h4, h5, h6⟩ := h
  exact ⟨o1, o2, h1, h2, h3, h6⟩
theorem Two.duo {W w : World} {b1 b2 : Nat} {s : St} (o : Act4) (h : Two W b1 b2 s w) : Duo W b1 b2 s s w.heap.size o (w.alloc (.cells #[.int .i64 o.kind, .int .i64 o.who, .int .i64 o.at_, .int .i64 o.v] 27)) := by
  obtain ⟨o1, o2, h1, h2, h3, h4⟩ := h
  refine ⟨o1, o2, h1.alloc _, h2.of_heap fun k hk => Below.heap_alloc _ _ _ (h2.own_lt k hk).2, h3, ⟨fun hk => ?_, fun hk => ?_⟩, Block.new w o.cells _, h4.alloc h4.size _⟩
  · have := (h1.own_lt _ hk).2; omega
  · have := (h2.own_lt _ hk).2; omega
theorem Two.is {W w : World} {b1 b2 : Nat} {s : St} (h : Two W b1 b2 s w) : Below W.heap.size W w := h.choose_spec.choose_spec.2.2.2

theorem duo_write {W w : World} {b1 b2 pb : Nat} {s1 s2 : St} {o : Act4} (who t v : Int) (h : Duo W b1 b2 s1 s2 pb o w) (hm : s1.l.length ≤ 1000000) :
    Calls Try.prog 15 #[.pointer (some ⟨b1, 0, none⟩), .int .i64 who, .int .i64 t, .int .i64 v] w fun e w' => e = .returned (.int .i64 (mayE s1 who t)) ∧ Duo W b1 b2 (writeS s1 who t v) (s2) pb o w' := by
  obtain ⟨o1, o2, h1, h2, h3, h4, h5, h6⟩ := h
  exact (write_any w _ b1 o1 s1 who t v h1 hm).mono fun e w' ⟨a1, a2⟩ => ⟨a1, Duo.left h1 h2 h3 h4 h5 h6 a2⟩

theorem duo_rwrite {W w : World} {b1 b2 pb : Nat} {s1 s2 : St} {o : Act4} (who t v : Int) (h : Duo W b1 b2 s1 s2 pb o w) (hm : s2.l.length ≤ 1000000) :
    Calls Try.prog 25 #[.pointer (some ⟨b2, 0, none⟩), .int .i64 who, .int .i64 t, .int .i64 v] w fun e w' => e = .returned (.int .i64 (mayE s2 who t)) ∧ Duo W b1 b2 (s1) (writeS s2 who t v) pb o w' := by
  obtain ⟨o1, o2, h1, h2, h3, h4, h5, h6⟩ := h
  exact (rwrite_any w _ b2 o2 s2 who t v h2 hm).mono fun e w' ⟨a1, a2⟩ => ⟨a1, Duo.right h1 h2 h3 h4 h5 h6 a2⟩

theorem duo_erase {W w : World} {b1 b2 pb : Nat} {s1 s2 : St} {o : Act4} (who t : Int) (h : Duo W b1 b2 s1 s2 pb o w) (hm : s1.l.length ≤ 1000000) :
    Calls Try.prog 16 #[.pointer (some ⟨b1, 0, none⟩), .int .i64 who, .int .i64 t] w fun e w' => e = .returned (.int .i64 ((eraseS s1 who t).2)) ∧ Duo W b1 b2 ((eraseS s1 who t).1) (s2) pb o w' := by
  obtain ⟨o1, o2, h1, h2, h3, h4, h5, h6⟩ := h
  exact (erase_any w _ b1 o1 s1 who t h1 hm).mono fun e w' ⟨a1, a2⟩ => ⟨a1, Duo.left h1 h2 h3 h4 h5 h6 a2⟩

theorem duo_rerase {W w : World} {b1 b2 pb : Nat} {s1 s2 : St} {o : Act4} (who t : Int) (h : Duo W b1 b2 s1 s2 pb o w) (hm : s2.l.length ≤ 1000000) :
    Calls Try.prog 26 #[.pointer (some ⟨b2, 0, none⟩), .int .i64 who, .int .i64 t] w fun e w' => e = .returned (.int .i64 ((eraseS s2 who t).2)) ∧ Duo W b1 b2 (s1) ((eraseS s2 who t).1) pb o w' := by
  obtain ⟨o1, o2, h1, h2, h3, h4, h5, h6⟩ := h
  exact (rerase_any w _ b2 o2 s2 who t h2 hm).mono fun e w' ⟨a1, a2⟩ => ⟨a1, Duo.right h1 h2 h3 h4 h5 h6 a2⟩

theorem duo_commit {W w : World} {b1 b2 pb : Nat} {s1 s2 : St} {o : Act4} (who t : Int) (h : Duo W b1 b2 s1 s2 pb o w) (hm : s1.l.length ≤ 1000000) :
    Calls Try.prog 17 #[.pointer (some ⟨b1, 0, none⟩), .int .i64 who, .int .i64 t] w fun e w' => e = .returned (.int .i64 ((commitS s1 who t).2)) ∧ Duo W b1 b2 ((commitS s1 who t).1) (s2) pb o w' := by
  obtain ⟨o1, o2, h1, h2, h3, h4, h5, h6⟩ := h
  exact (commit_any w _ b1 o1 s1 who t h1 hm).mono fun e w' ⟨a1, a2⟩ => ⟨a1, Duo.left h1 h2 h3 h4 h5 h6 a2⟩

theorem duo_rcommit {W w : World} {b1 b2 pb : Nat} {s1 s2 : St} {o : Act4} (who t : Int) (h : Duo W b1 b2 s1 s2 pb o w) (hm : s2.l.length ≤ 1000000) :
    Calls Try.prog 27 #[.pointer (some ⟨b2, 0, none⟩), .int .i64 who, .int .i64 t] w fun e w' => e = .returned (.int .i64 ((commitS s2 who t).2)) ∧ Duo W b1 b2 (s1) ((commitS s2 who t).1) pb o w' := by
  obtain ⟨o1, o2, h1, h2, h3, h4, h5, h6⟩ := h
  exact (rcommit_any w _ b2 o2 s2 who t h2 hm).mono fun e w' ⟨a1, a2⟩ => ⟨a1, Duo.right h1 h2 h3 h4 h5 h6 a2⟩

theorem duo_abort {W w : World} {b1 b2 pb : Nat} {s1 s2 : St} {o : Act4} (who : Int) (h : Duo W b1 b2 s1 s2 pb o w) (hm : s1.l.length ≤ 1000000) :
    Calls Try.prog 13 #[.pointer (some ⟨b1, 0, none⟩), .int .i64 who] w fun e w' => e = .returned (.int .i64 ((abortS s1 who).2)) ∧ Duo W b1 b2 ((abortS s1 who).1) (s2) pb o w' := by
  obtain ⟨o1, o2, h1, h2, h3, h4, h5, h6⟩ := h
  exact (abort_any w _ b1 o1 s1 who h1).mono fun e w' ⟨a1, a2⟩ => ⟨a1, Duo.left h1 h2 h3 h4 h5 h6 a2⟩

theorem duo_rabort {W w : World} {b1 b2 pb : Nat} {s1 s2 : St} {o : Act4} (who : Int) (h : Duo W b1 b2 s1 s2 pb o w) (hm : s2.l.length ≤ 1000000) :
    Calls Try.prog 28 #[.pointer (some ⟨b2, 0, none⟩), .int .i64 who] w fun e w' => e = .returned (.int .i64 ((abortS s2 who).2)) ∧ Duo W b1 b2 (s1) ((abortS s2 who).1) pb o w' := by
  obtain ⟨o1, o2, h1, h2, h3, h4, h5, h6⟩ := h
  exact (rabort_any w _ b2 o2 s2 who h2).mono fun e w' ⟨a1, a2⟩ => ⟨a1, Duo.right h1 h2 h3 h4 h5 h6 a2⟩

theorem duo_prune {W w : World} {b1 b2 pb : Nat} {s1 s2 : St} {o : Act4} (t : Int) (h : Duo W b1 b2 s1 s2 pb o w) (hm : s1.l.length ≤ 1000000) :
    Calls Try.prog 21 #[.pointer (some ⟨b1, 0, none⟩), .int .i64 t] w fun e w' => e = .returned (.int .i64 ((pruneS s1 t).2)) ∧ Duo W b1 b2 ((pruneS s1 t).1) (s2) pb o w' := by
  obtain ⟨o1, o2, h1, h2, h3, h4, h5, h6⟩ := h
  exact (prune_any w _ b1 o1 s1 t h1 hm).mono fun e w' ⟨a1, a2⟩ => ⟨a1, Duo.left h1 h2 h3 h4 h5 h6 a2⟩

theorem duo_rprune {W w : World} {b1 b2 pb : Nat} {s1 s2 : St} {o : Act4} (t : Int) (h : Duo W b1 b2 s1 s2 pb o w) (hm : s2.l.length ≤ 1000000) :
    Calls Try.prog 29 #[.pointer (some ⟨b2, 0, none⟩), .int .i64 t] w fun e w' => e = .returned (.int .i64 ((pruneS s2 t).2)) ∧ Duo W b1 b2 (s1) ((pruneS s2 t).1) pb o w' := by
  obtain ⟨o1, o2, h1, h2, h3, h4, h5, h6⟩ := h
  exact (rprune_any w _ b2 o2 s2 t h2 hm).mono fun e w' ⟨a1, a2⟩ => ⟨a1, Duo.right h1 h2 h3 h4 h5 h6 a2⟩

theorem duo_read {W w : World} {b1 b2 pb : Nat} {s1 s2 : St} {o : Act4} (t who : Int) (h : Duo W b1 b2 s1 s2 pb o w) (hm : s1.l.length ≤ 1000000) :
    Calls Try.prog 10 #[.pointer (some ⟨b1, 0, none⟩), .int .i64 t, .int .i64 who] w fun e w' => e = .returned (.tuple #[.int .i64 (readS s1 t who).1, .bool (readS s1 t who).2]) ∧ w = w' := by
  obtain ⟨o1, o2, h1, h2, h3, h4, h5, h6⟩ := h
  exact read_any w _ b1 o1 s1 t who h1 hm
theorem duo_rread {W w : World} {b1 b2 pb : Nat} {s1 s2 : St} {o : Act4} (t who : Int) (h : Duo W b1 b2 s1 s2 pb o w) (hm : s2.l.length ≤ 1000000) :
    Calls Try.prog 24 #[.pointer (some ⟨b2, 0, none⟩), .int .i64 t, .int .i64 who] w fun e w' => e = .returned (.tuple #[.int .i64 (readS s2 t who).1, .bool (readS s2 t who).2]) ∧ Duo W b1 b2 s1 s2 pb o w' := by
  obtain ⟨o1, o2, h1, h2, h3, h4, h5, h6⟩ := h
  exact (rread_any w _ b2 o2 s2 t who h2 hm).mono fun e w' ⟨a1, a2⟩ => ⟨a1, Duo.right h1 h2 h3 h4 h5 h6 (RMoved.below h2 a2)⟩

set_option maxRecDepth 100000 in
set_option maxHeartbeats 8000000 in
theorem step_read {W w : World} {b1 b2 : Nat} {s : St} (kind who at_ v : Int) (h : Two W b1 b2 s w) (hm : s.l.length ≤ 1000000) :
    Calls Try.prog 18 #[.pointer (some ⟨b1, 0, none⟩), .pointer (some ⟨b2, 0, none⟩), .agg #[.int .i64 0, .int .i64 who, .int .i64 at_, .int .i64 v]] w fun e w' => e = .returned (.bool true) ∧ Two W b1 b2 s w' := by
  have hD := h.duo ⟨0, who, at_, v⟩
  have HM := Lib.hid hm
  clear hm
  go_enter Try.func18, Try.ntmps18
  go_wp2_with fail
  refine (duo_read at_ who hD HM.out).mono ?_; rintro e w1 ⟨rfl, rfl⟩
  go_wp2_with fail
  refine (duo_rread at_ who hD HM.out).mono ?_; rintro e w1 ⟨rfl, hD1⟩
  go_wp2_with fail
  go_ret
  exact ⟨rfl, hD1.two⟩

set_option maxRecDepth 100000 in
set_option maxHeartbeats 8000000 in
theorem step_write {W w : World} {b1 b2 : Nat} {s : St} (kind who at_ v : Int) (h : Two W b1 b2 s w) (hm : s.l.length ≤ 1000000) :
    Calls Try.prog 18 #[.pointer (some ⟨b1, 0, none⟩), .pointer (some ⟨b2, 0, none⟩), .agg #[.int .i64 1, .int .i64 who, .int .i64 at_, .int .i64 v]] w fun e w' => e = .returned (.bool true) ∧ Two W b1 b2 (writeS s who at_ v) w' := by
  have hD := h.duo ⟨1, who, at_, v⟩
  have HM := Lib.hid hm
  clear hm
  go_enter Try.func18, Try.ntmps18
  go_wp2_with fail
  go_region_held3 (fun u : World => u.cell? ⟨w.heap.size, 1, none⟩ = some (.int .i64 who) ∧ u.cell? ⟨w.heap.size, 2, none⟩ = some (.int .i64 at_) ∧ u.cell? ⟨w.heap.size, 3, none⟩ = some (.int .i64 v)) (first | exact hD.drew.cells | exact Duo.cells (by assumption)) (first | (go_at_call 15; refine (duo_write _ _ _ (by first | exact hD.drew | assumption) HM.out).mono ?_; rintro e w1 ⟨rfl, hD1⟩) | (go_at_call 25; refine (duo_rwrite _ _ _ (by first | exact hD.drew | assumption) HM.out).mono ?_; rintro e w1 ⟨rfl, hD1⟩))
  all_goals go_wp2_with fail
  all_goals go_ret
  all_goals exact ⟨rfl, Duo.two (by assumption)⟩

set_option maxRecDepth 100000 in
set_option maxHeartbeats 8000000 in
theorem step_erase {W w : World} {b1 b2 : Nat} {s : St} (kind who at_ v : Int) (h : Two W b1 b2 s w) (hm : s.l.length ≤ 1000000) :
    Calls Try.prog 18 #[.pointer (some ⟨b1, 0, none⟩), .pointer (some ⟨b2, 0, none⟩), .agg #[.int .i64 2, .int .i64 who, .int .i64 at_, .int .i64 v]] w fun e w' => e = .returned (.bool true) ∧ Two W b1 b2 ((eraseS s who at_).1) w' := by
  have hD := h.duo ⟨2, who, at_, v⟩
  have HM := Lib.hid hm
  clear hm
  go_enter Try.func18, Try.ntmps18
  go_wp2_with fail
  go_region_held3 (fun u : World => u.cell? ⟨w.heap.size, 1, none⟩ = some (.int .i64 who) ∧ u.cell? ⟨w.heap.size, 2, none⟩ = some (.int .i64 at_) ∧ u.cell? ⟨w.heap.size, 3, none⟩ = some (.int .i64 v)) (first | exact hD.drew.cells | exact Duo.cells (by assumption)) (first | (go_at_call 16; refine (duo_erase _ _ (by first | exact hD.drew | assumption) HM.out).mono ?_; rintro e w1 ⟨rfl, hD1⟩) | (go_at_call 26; refine (duo_rerase _ _ (by first | exact hD.drew | assumption) HM.out).mono ?_; rintro e w1 ⟨rfl, hD1⟩))
  all_goals go_wp2_with fail
  all_goals go_ret
  all_goals exact ⟨rfl, Duo.two (by assumption)⟩

set_option maxRecDepth 100000 in
set_option maxHeartbeats 8000000 in
theorem step_commit {W w : World} {b1 b2 : Nat} {s : St} (kind who at_ v : Int) (h : Two W b1 b2 s w) (hm : s.l.length ≤ 1000000) :
    Calls Try.prog 18 #[.pointer (some ⟨b1, 0, none⟩), .pointer (some ⟨b2, 0, none⟩), .agg #[.int .i64 3, .int .i64 who, .int .i64 at_, .int .i64 v]] w fun e w' => e = .returned (.bool true) ∧ Two W b1 b2 ((commitS s who at_).1) w' := by
  have hD := h.duo ⟨3, who, at_, v⟩
  have HM := Lib.hid hm
  clear hm
  go_enter Try.func18, Try.ntmps18
  go_wp2_with fail
  go_region_held3 (fun u : World => u.cell? ⟨w.heap.size, 1, none⟩ = some (.int .i64 who) ∧ u.cell? ⟨w.heap.size, 2, none⟩ = some (.int .i64 at_) ∧ u.cell? ⟨w.heap.size, 3, none⟩ = some (.int .i64 v)) (first | exact hD.drew.cells | exact Duo.cells (by assumption)) (first | (go_at_call 17; refine (duo_commit _ _ (by first | exact hD.drew | assumption) HM.out).mono ?_; rintro e w1 ⟨rfl, hD1⟩) | (go_at_call 27; refine (duo_rcommit _ _ (by first | exact hD.drew | assumption) HM.out).mono ?_; rintro e w1 ⟨rfl, hD1⟩))
  all_goals go_wp2_with fail
  all_goals go_ret
  all_goals exact ⟨rfl, Duo.two (by assumption)⟩

set_option maxRecDepth 100000 in
set_option maxHeartbeats 8000000 in
theorem step_abort {W w : World} {b1 b2 : Nat} {s : St} (kind who at_ v : Int) (h : Two W b1 b2 s w) (hm : s.l.length ≤ 1000000) :
    Calls Try.prog 18 #[.pointer (some ⟨b1, 0, none⟩), .pointer (some ⟨b2, 0, none⟩), .agg #[.int .i64 4, .int .i64 who, .int .i64 at_, .int .i64 v]] w fun e w' => e = .returned (.bool true) ∧ Two W b1 b2 ((abortS s who).1) w' := by
  have hD := h.duo ⟨4, who, at_, v⟩
  have HM := Lib.hid hm
  clear hm
  go_enter Try.func18, Try.ntmps18
  go_wp2_with fail
  go_region_held3 (fun u : World => u.cell? ⟨w.heap.size, 1, none⟩ = some (.int .i64 who) ∧ u.cell? ⟨w.heap.size, 2, none⟩ = some (.int .i64 at_) ∧ u.cell? ⟨w.heap.size, 3, none⟩ = some (.int .i64 v)) (first | exact hD.drew.cells | exact Duo.cells (by assumption)) (first | (go_at_call 13; refine (duo_abort _ (by first | exact hD.drew | assumption) HM.out).mono ?_; rintro e w1 ⟨rfl, hD1⟩) | (go_at_call 28; refine (duo_rabort _ (by first | exact hD.drew | assumption) HM.out).mono ?_; rintro e w1 ⟨rfl, hD1⟩))
  all_goals go_wp2_with fail
  all_goals go_ret
  all_goals exact ⟨rfl, Duo.two (by assumption)⟩

set_option maxRecDepth 100000 in
set_option maxHeartbeats 8000000 in
theorem step_prune {W w : World} {b1 b2 : Nat} {s : St} (kind who at_ v : Int) (h : Two W b1 b2 s w) (hm : s.l.length ≤ 1000000) :
    Calls Try.prog 18 #[.pointer (some ⟨b1, 0, none⟩), .pointer (some ⟨b2, 0, none⟩), .agg #[.int .i64 5, .int .i64 who, .int .i64 at_, .int .i64 v]] w fun e w' => e = .returned (.bool true) ∧ Two W b1 b2 ((pruneS s at_).1) w' := by
  have hD := h.duo ⟨5, who, at_, v⟩
  have HM := Lib.hid hm
  clear hm
  go_enter Try.func18, Try.ntmps18
  go_wp2_with fail
  go_region_held3 (fun u : World => u.cell? ⟨w.heap.size, 1, none⟩ = some (.int .i64 who) ∧ u.cell? ⟨w.heap.size, 2, none⟩ = some (.int .i64 at_) ∧ u.cell? ⟨w.heap.size, 3, none⟩ = some (.int .i64 v)) (first | exact hD.drew.cells | exact Duo.cells (by assumption)) (first | (go_at_call 21; refine (duo_prune _ (by first | exact hD.drew | assumption) HM.out).mono ?_; rintro e w1 ⟨rfl, hD1⟩) | (go_at_call 29; refine (duo_rprune _ (by first | exact hD.drew | assumption) HM.out).mono ?_; rintro e w1 ⟨rfl, hD1⟩))
  all_goals go_wp2_with fail
  all_goals go_ret
  all_goals exact ⟨rfl, Duo.two (by assumption)⟩

set_option maxRecDepth 100000 in
set_option maxHeartbeats 8000000 in
theorem step_other {W w : World} {b1 b2 : Nat} {s : St} (kind who at_ v : Int) (h : Two W b1 b2 s w) (hm : s.l.length ≤ 1000000) (k0 : (kind == 0) = false) (k1 : (kind == 1) = false) (k2 : (kind == 2) = false) (k3 : (kind == 3) = false) (k4 : (kind == 4) = false) (k5 : (kind == 5) = false) :
    Calls Try.prog 18 #[.pointer (some ⟨b1, 0, none⟩), .pointer (some ⟨b2, 0, none⟩), .agg #[.int .i64 kind, .int .i64 who, .int .i64 at_, .int .i64 v]] w fun e w' => e = .returned (.bool true) ∧ Two W b1 b2 s w' := by
  have hD := h.duo ⟨kind, who, at_, v⟩
  have HM := Lib.hid hm
  clear hm
  go_enter Try.func18, Try.ntmps18
  go_wp2_with fail
  go_ret
  exact ⟨rfl, hD.two⟩
theorem step_any {W w : World} {b1 b2 : Nat} {s : St} (o : Act4) (h : Two W b1 b2 s w) (hm : s.l.length ≤ 1000000) :
    Calls Try.prog 18 #[.pointer (some ⟨b1, 0, none⟩), .pointer (some ⟨b2, 0, none⟩), .agg #[.int .i64 o.kind, .int .i64 o.who, .int .i64 o.at_, .int .i64 o.v]] w fun e w' => e = .returned (.bool true) ∧ Two W b1 b2 (doS s o) w' := by
  obtain ⟨kind, who, at_, v⟩ := o
  by_cases h0 : kind = 0
  · subst h0; exact step_read 0 who at_ v h hm
  by_cases h1 : kind = 1
  · subst h1; exact step_write 1 who at_ v h hm
  by_cases h2 : kind = 2
  · subst h2; exact step_erase 2 who at_ v h hm
  by_cases h3 : kind = 3
  · subst h3; exact step_commit 3 who at_ v h hm
  by_cases h4 : kind = 4
  · subst h4; exact step_abort 4 who at_ v h hm
  by_cases h5 : kind = 5
  · subst h5; exact step_prune 5 who at_ v h hm
  have hd : doS s ⟨kind, who, at_, v⟩ = s := by unfold doS; rw [if_neg h1, if_neg h2, if_neg h3, if_neg h4, if_neg h5]
  rw [hd]
  exact step_other kind who at_ v h hm (beq_eq_false_iff_ne.2 h0) (beq_eq_false_iff_ne.2 h1) (beq_eq_false_iff_ne.2 h2) (beq_eq_false_iff_ne.2 h3) (beq_eq_false_iff_ne.2 h4) (beq_eq_false_iff_ne.2 h5)
end Go.Proofs.Ytelmaaokaakpbaa

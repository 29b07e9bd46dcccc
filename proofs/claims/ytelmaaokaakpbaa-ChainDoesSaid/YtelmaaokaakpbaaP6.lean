/- Layer 24: what the laws' helpers do and works do. Conditions: the chain is there. -/
import Derived.Test.YtelmaaokaakpbaaP5
namespace Go.Proofs.Ytelmaaokaakpbaa
open Go.RowKit
set_option linter.unusedSimpArgs false
set_option linter.unusedVariables false

structure Act4 where
  kind : Int
  who : Int
  at_ : Int
  v : Int
def Act4.val (o : Act4) : Value := .agg #[.int .i64 o.kind, .int .i64 o.who, .int .i64 o.at_, .int .i64 o.v]
def Act4.cells (o : Act4) : List Value := [.int .i64 o.kind, .int .i64 o.who, .int .i64 o.at_, .int .i64 o.v]

def doS (s : St) (o : Act4) : St :=
  if o.kind = 1 then writeS s o.who o.at_ o.v else if o.kind = 2 then (eraseS s o.who o.at_).1 else if o.kind = 3 then (commitS s o.who o.at_).1 else if o.kind = 4 then (abortS s o.who).1 else if o.kind = 5 then (pruneS s o.at_).1 else s

theorem Moved.alloc {w w' : World} {B b : Nat} {own : List Nat} {s s' : St} {o : Obj} (hr : Rep w B b own s) (h : Moved B b own s' (w.alloc o) w') : Moved B b own s' w w' := by
  obtain ⟨own', h1, h2, h3⟩ := h
  exact ⟨own', h1, fun k hk => (h2 k hk).imp_right (fun h => by simp at h; omega), (Kept.refl own w).alloc o |>.trans h3 (fun x hx => .inl hx)⟩
theorem Rep.alloc {w : World} {B b : Nat} {own : List Nat} {s : St} (h : Rep w B b own s) (o : Obj) : Rep (w.alloc o) B b own s := h.of_heap fun k hk => Below.heap_alloc _ _ _ (h.own_lt k hk).2

set_option maxHeartbeats 1000000 in
theorem do_any (w : World) (B b : Nat) (own : List Nat) (s : St) (o : Act4) (hr : Rep w B b own s) (hm : s.l.length ≤ 1000000) :
    Calls Try.prog 9 #[.pointer (some ⟨b, 0, none⟩), o.val] w fun e w' => e = .returned (.tuple #[]) ∧ Moved B b own (doS s o) w w' := by
  obtain ⟨kind, who, at_, v⟩ := o
  have HR := Lib.hid hr
  have HA := Lib.hid (fun o => hr.alloc o)
  have HM := Lib.hid hm
  clear hr hm
  unfold Act4.val
  by_cases h1 : kind = 1
  · subst h1
    go_enter Try.func9, Try.ntmps9
    go_wp2_with fail
    refine (write_any _ B b own s who at_ v (HA.out _) HM.out).mono ?_; rintro e w' ⟨rfl, hmv⟩
    have HMV := Lib.hid (hmv.alloc HR.out)
    clear hmv
    go_wp2_with fail
    go_end0
    exact ⟨rfl, HMV.out⟩
  have k1 : (kind == 1) = false := beq_eq_false_iff_ne.2 h1
  by_cases h2 : kind = 2
  · subst h2
    go_enter Try.func9, Try.ntmps9
    go_wp2_with fail
    refine (erase_any _ B b own s who at_ (HA.out _) HM.out).mono ?_; rintro e w' ⟨rfl, hmv⟩
    have HMV := Lib.hid (hmv.alloc HR.out)
    clear hmv
    go_wp2_with fail
    go_end0
    exact ⟨rfl, HMV.out⟩
  have k2 : (kind == 2) = false := beq_eq_false_iff_ne.2 h2
  by_cases h3 : kind = 3
  · subst h3
    go_enter Try.func9, Try.ntmps9
    go_wp2_with fail
    refine (commit_any _ B b own s who at_ (HA.out _) HM.out).mono ?_; rintro e w' ⟨rfl, hmv⟩
    have HMV := Lib.hid (hmv.alloc HR.out)
    clear hmv
    go_wp2_with fail
    go_end0
    exact ⟨rfl, HMV.out⟩
  have k3 : (kind == 3) = false := beq_eq_false_iff_ne.2 h3
  by_cases h4 : kind = 4
  · subst h4
    go_enter Try.func9, Try.ntmps9
    go_wp2_with fail
    refine (abort_any _ B b own s who (HA.out _)).mono ?_; rintro e w' ⟨rfl, hmv⟩
    have HMV := Lib.hid (hmv.alloc HR.out)
    clear hmv
    go_wp2_with fail
    go_end0
    exact ⟨rfl, HMV.out⟩
  have k4 : (kind == 4) = false := beq_eq_false_iff_ne.2 h4
  by_cases h5 : kind = 5
  · subst h5
    go_enter Try.func9, Try.ntmps9
    go_wp2_with fail
    refine (prune_any _ B b own s at_ (HA.out _) HM.out).mono ?_; rintro e w' ⟨rfl, hmv⟩
    have HMV := Lib.hid (hmv.alloc HR.out)
    clear hmv
    go_wp2_with fail
    go_end0
    exact ⟨rfl, HMV.out⟩
  have k5 : (kind == 5) = false := beq_eq_false_iff_ne.2 h5
  have HD : Hid (doS s ⟨kind, who, at_, v⟩ = s) := Lib.hid (by unfold doS; rw [if_neg h1, if_neg h2, if_neg h3, if_neg h4, if_neg h5])
  clear h1 h2 h3 h4 h5
  go_enter Try.func9, Try.ntmps9
  go_wp2_with fail
  go_end0
  refine ⟨rfl, ?_⟩
  rw [HD.out]
  exact Moved.alloc HR.out (Moved.same0 (HA.out _))

def s0 : St := { l := [], who := 0, val := 0, gone := false }
theorem Moved.trans {B b : Nat} {own own' : List Nat} {s s' : St} {w w1 w2 : World} (h : Rep w1 B b own' s) (h1 : ∀ k ∈ own', k ∈ own ∨ w.heap.size ≤ k) (hk : Kept own w w1) (h2 : Moved B b own' s' w1 w2) : Moved B b own s' w w2 := by
  obtain ⟨own2, a1, a2, a3⟩ := h2
  refine ⟨own2, a1, fun k hm => ?_, hk.trans a3 h1⟩
  rcases a2 k hm with h | h
  · exact h1 k h
  · exact .inr (Nat.le_trans hk.size h)

/-- In w there is a chain that is s, in blocks that were not in W; all that was in W is as it was. -/
def Has (W : World) (b : Nat) (s : St) (w : World) : Prop := ∃ own, Rep w W.heap.size b own s ∧ Below W.heap.size W w
theorem Has.moved {W w w' : World} {b : Nat} {s s' : St} {own : List Nat} (h : Rep w W.heap.size b own s) (hb : Below W.heap.size W w) (hm : Moved W.heap.size b own s' w w') : Has W b s' w' := by
  obtain ⟨own', h1, h2, h3⟩ := hm
  exact ⟨own', h1, hb.trans (h3.below (fun x hx => (h.own_lt x hx).1) hb.size)⟩
theorem Has.below {W w w' : World} {b : Nat} {s : St} (h : Has W b s w) (hb : Below w.heap.size w w') : Has W b s w' := by
  obtain ⟨own, h1, h2⟩ := h
  exact ⟨own, h1.of_heap (fun k hk => hb.block k (h1.own_lt k hk).2), h2.trans (hb.mono h2.size)⟩
theorem Has.is {W w : World} {b : Nat} {s : St} (h : Has W b s w) : Below W.heap.size W w := h.choose_spec.2

theorem write_h {W w : World} {b : Nat} {s : St} (who t v e0 : Int) (s1 : St) (h : Has W b s w) (hm : s.l.length ≤ 1000000) (he : mayE s who t = e0) (hs : writeS s who t v = s1) :
    Calls Try.prog 15 #[.pointer (some ⟨b, 0, none⟩), .int .i64 who, .int .i64 t, .int .i64 v] w fun e w' => e = .returned (.int .i64 e0) ∧ Has W b s1 w' := by
  obtain ⟨own, h1, h2⟩ := h
  subst he hs
  exact (write_any w _ b own s who t v h1 hm).mono fun e w' ⟨h3, h4⟩ => ⟨h3, Has.moved h1 h2 h4⟩
theorem erase_h {W w : World} {b : Nat} {s : St} (who t e0 : Int) (s1 : St) (h : Has W b s w) (hm : s.l.length ≤ 1000000) (he : eraseS s who t = (s1, e0)) :
    Calls Try.prog 16 #[.pointer (some ⟨b, 0, none⟩), .int .i64 who, .int .i64 t] w fun e w' => e = .returned (.int .i64 e0) ∧ Has W b s1 w' := by
  obtain ⟨own, h1, h2⟩ := h
  have hc := erase_any w _ b own s who t h1 hm
  rw [he] at hc
  exact hc.mono fun e w' ⟨h3, h4⟩ => ⟨h3, Has.moved h1 h2 h4⟩
theorem commit_h {W w : World} {b : Nat} {s : St} (who f e0 : Int) (s1 : St) (h : Has W b s w) (hm : s.l.length ≤ 1000000) (he : commitS s who f = (s1, e0)) :
    Calls Try.prog 17 #[.pointer (some ⟨b, 0, none⟩), .int .i64 who, .int .i64 f] w fun e w' => e = .returned (.int .i64 e0) ∧ Has W b s1 w' := by
  obtain ⟨own, h1, h2⟩ := h
  have hc := commit_any w _ b own s who f h1 hm
  rw [he] at hc
  exact hc.mono fun e w' ⟨h3, h4⟩ => ⟨h3, Has.moved h1 h2 h4⟩
theorem abort_h {W w : World} {b : Nat} {s : St} (who e0 : Int) (s1 : St) (h : Has W b s w) (he : abortS s who = (s1, e0)) :
    Calls Try.prog 13 #[.pointer (some ⟨b, 0, none⟩), .int .i64 who] w fun e w' => e = .returned (.int .i64 e0) ∧ Has W b s1 w' := by
  obtain ⟨own, h1, h2⟩ := h
  have hc := abort_any w _ b own s who h1
  rw [he] at hc
  exact hc.mono fun e w' ⟨h3, h4⟩ => ⟨h3, Has.moved h1 h2 h4⟩
theorem prune_h {W w : World} {b : Nat} {s : St} (t e0 : Int) (s1 : St) (h : Has W b s w) (hm : s.l.length ≤ 1000000) (he : pruneS s t = (s1, e0)) :
    Calls Try.prog 21 #[.pointer (some ⟨b, 0, none⟩), .int .i64 t] w fun e w' => e = .returned (.int .i64 e0) ∧ Has W b s1 w' := by
  obtain ⟨own, h1, h2⟩ := h
  have hc := prune_any w _ b own s t h1 hm
  rw [he] at hc
  exact hc.mono fun e w' ⟨h3, h4⟩ => ⟨h3, Has.moved h1 h2 h4⟩
theorem do_h {W w : World} {b : Nat} {s : St} (o : Act4) (h : Has W b s w) (hm : s.l.length ≤ 1000000) :
    Calls Try.prog 9 #[.pointer (some ⟨b, 0, none⟩), .agg #[.int .i64 o.kind, .int .i64 o.who, .int .i64 o.at_, .int .i64 o.v]] w fun e w' => e = .returned (.tuple #[]) ∧ Has W b (doS s o) w' := by
  obtain ⟨own, h1, h2⟩ := h
  exact (do_any w _ b own s o h1 hm).mono fun e w' ⟨h3, h4⟩ => ⟨h3, Has.moved h1 h2 h4⟩
theorem read_h {W w : World} {b : Nat} {s : St} (t who v0 : Int) (k0 : Bool) (h : Has W b s w) (hm : s.l.length ≤ 1000000) (he : readS s t who = (v0, k0)) :
    Calls Try.prog 10 #[.pointer (some ⟨b, 0, none⟩), .int .i64 t, .int .i64 who] w fun e w' => e = .returned (.tuple #[.int .i64 v0, .bool k0]) ∧ w = w' := by
  obtain ⟨own, h1, h2⟩ := h
  have hc := read_any w _ b own s t who h1 hm
  rw [he] at hc
  exact hc
theorem owner_h {W w : World} {b : Nat} {s : St} (h : Has W b s w) :
    Calls Try.prog 12 #[.pointer (some ⟨b, 0, none⟩)] w fun e w' => e = .returned (.int .i64 s.who) ∧ w = w' := by
  obtain ⟨own, h1, h2⟩ := h
  exact owner_any w _ b own s h1
theorem live_h {W w : World} {b : Nat} {s : St} (h : Has W b s w) :
    Calls Try.prog 19 #[.pointer (some ⟨b, 0, none⟩)] w fun e w' => e = .returned (.int .i64 s.l.length) ∧ w = w' := by
  obtain ⟨own, h1, h2⟩ := h
  exact live_any w _ b own s h1
theorem newest_h {W w : World} {b : Nat} {s : St} (h : Has W b s w) (hm : s.l.length ≤ 1000000) :
    Calls Try.prog 14 #[.pointer (some ⟨b, 0, none⟩)] w fun e w' => e = .returned (.int .i64 (newest s.l)) ∧ Has W b s w' := by
  have hh := h
  obtain ⟨own, h1, h2⟩ := h
  exact (newest_any w _ b own s h1 hm).mono fun e w' ⟨h3, h4⟩ => ⟨h3, hh.below h4⟩
theorem new_h {W w : World} (h : Below W.heap.size W w) :
    Calls Try.prog 8 #[] w fun e w' => e = .returned (.pointer (some ⟨w.heap.size, 0, none⟩)) ∧ Has W w.heap.size s0 w' := by
  refine (new_any w).mono fun e w' ⟨h1, own, h2, h3⟩ => ⟨h1, own, ?_, h.trans (h3.mono h.size)⟩
  obtain ⟨a, cap, b1, b2, b3, b4⟩ := h2
  refine ⟨a, cap, b1, ?_, h.size, b4⟩
  obtain ⟨c1, c2⟩ := b2
  refine ⟨c1, ?_⟩
  rcases c2 with c2 | ⟨g, c, cur, d1, d2, d3⟩
  · exact .inl c2
  · exact .inr ⟨g, c, cur, d1, Nat.le_trans h.size d2, d3⟩

set_option maxHeartbeats 1000000 in
theorem works_h {W w : World} (h : Below W.heap.size W w) : Calls Try.prog 11 #[] w fun e w' => e = .returned (.bool true) ∧ Below W.heap.size W w' := by
  go_enter Try.func11, Try.ntmps11
  go_wp2_with fail
  refine (new_h h).mono ?_; rintro e w1 ⟨rfl, hh⟩
  go_wp2_with fail
  refine (write_h 1 0 7 0 { l := [], who := 1, val := 7, gone := false } hh (by simp [s0]) rfl rfl).mono ?_; rintro e w2 ⟨rfl, hh2⟩
  go_wp2_with fail
  refine (write_h 2 9 8 6 { l := [], who := 1, val := 7, gone := false } hh2 (by simp) rfl rfl).mono ?_; rintro e w3 ⟨rfl, hh3⟩
  go_wp2_with fail
  refine (commit_h 1 5 0 { l := [⟨5, 7, false⟩], who := 0, val := 0, gone := false } hh3 (by simp) rfl).mono ?_; rintro e w4 ⟨rfl, hh4⟩
  go_wp2_with fail
  refine (read_h 5 0 7 true hh4 (by simp) rfl).mono ?_; rintro e w' ⟨rfl, rfl⟩
  go_wp2_with fail
  refine (read_h 4 0 0 false hh4 (by simp) rfl).mono ?_; rintro e w' ⟨rfl, rfl⟩
  go_wp2_with fail
  refine (write_h 2 4 8 6 { l := [⟨5, 7, false⟩], who := 0, val := 0, gone := false } hh4 (by simp) rfl rfl).mono ?_; rintro e w5 ⟨rfl, hh5⟩
  go_wp2_with fail
  refine (write_h 2 5 8 0 { l := [⟨5, 7, false⟩], who := 2, val := 8, gone := false } hh5 (by simp) rfl rfl).mono ?_; rintro e w6 ⟨rfl, hh6⟩
  go_wp2_with fail
  refine (owner_h hh6).mono ?_; rintro e w' ⟨rfl, rfl⟩
  go_wp2_with fail
  go_ret
  exact ⟨rfl, hh6.is⟩
end Go.Proofs.Ytelmaaokaakpbaa

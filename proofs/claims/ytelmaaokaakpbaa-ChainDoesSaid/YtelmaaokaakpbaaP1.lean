/- Layer 24: what a chain of versions is in memory; the contract of its method at. Conditions: the chain is there. -/
import Derived.Test.YtelmaaokaakpbaaProg
import Derived.Test.YtelmaaokaakpbaaBase
import Derived.Outline
namespace Go.Proofs.Ytelmaaokaakpbaa
open Go.RowKit
set_option linter.unusedSimpArgs false
set_option linter.unusedVariables false

structure V where
  from_ : Int
  val : Int
  gone : Bool
def V.cells (v : V) : List Value := [.int .i64 v.from_, .int .i64 v.val, .bool v.gone]
def rowV (l : List V) : List Value := l.flatMap V.cells
theorem rowV_length (l : List V) : (rowV l).length = l.length * 3 := by
  induction l with
  | nil => rfl
  | cons v l ih => simp only [rowV, List.flatMap_cons, List.length_append] at *; rw [ih]; simp [V.cells]; omega
theorem rowV_get {l : List V} {k : Nat} {v : V} (h : l[k]? = some v) : (rowV l)[k * 3]? = some (.int .i64 v.from_) ∧ (rowV l)[k * 3 + 1]? = some (.int .i64 v.val) ∧ (rowV l)[k * 3 + 2]? = some (.bool v.gone) := by
  induction l generalizing k with
  | nil => simp at h
  | cons u l ih =>
    cases k with
    | zero => simp at h; subst h; exact ⟨rfl, rfl, rfl⟩
    | succ k =>
      have := ih (by simpa using h)
      have e : ∀ j, (rowV (u :: l))[(k + 1) * 3 + j]? = (rowV l)[k * 3 + j]? := fun j => by
        show (u.cells ++ rowV l)[_]? = _
        rw [List.getElem?_append_right (by simp [V.cells]; omega)]
        congr 1; simp [V.cells]; omega
      exact ⟨(e 0).trans this.1, (e 1).trans this.2.1, (e 2).trans this.2.2⟩

/-- What a chain is: its versions, who writes, and what. -/
structure St where
  l : List V
  who : Int
  val : Int
  gone : Bool

/-- A chain of the program in block b; own: the blocks that it consists of. -/
def Rep (w : World) (B b : Nat) (own : List Nat) (s : St) : Prop :=
  ∃ a cap, Block w b [.slice a s.l.length cap, .int .i64 s.who, .int .i64 s.val, .bool s.gone] 55 ∧
    w.ownsRow B 57 3 (.slice a s.l.length cap) s.l.length (rowV s.l) ∧ B ≤ b ∧
    ((Value.slice a s.l.length cap).ownBlock = none ∧ own = [b] ∨ ∃ g, (Value.slice a s.l.length cap).ownBlock = some g ∧ g ≠ b ∧ own = [b, g])

theorem own_cells {w : World} {B : Nat} {e : TypeId} {a : Option Addr} {n cap : Nat} {l : List V} (h : w.ownsRow B e 3 (.slice a n cap) n (rowV l)) {k : Nat} {v : V} (hk : l[k]? = some v) :
    ∃ g, a = some ⟨g, 0, none⟩ ∧ w.cell? ⟨g, k * 3, none⟩ = some (.int .i64 v.from_) ∧ w.cell? ⟨g, k * 3 + 1, none⟩ = some (.int .i64 v.val) ∧ w.cell? ⟨g, k * 3 + 2, none⟩ = some (.bool v.gone) := by
  obtain ⟨h1, h2⟩ := h
  have hg := rowV_get hk
  have hlen := (List.getElem?_eq_some_iff.1 hk).1
  rcases h2 with ⟨h3, h4⟩ | ⟨g, c, cur, h3, h4, h5, h6⟩
  · rw [rowV_length, h4] at h1; omega
  · injection h3 with e1 e2 e3
    subst e1
    have hc := World.ownsRow.cells (w := w) (base := B) (e := e) (size := 3) (v := .slice (some ⟨g, 0, none⟩) n cap) (xs := rowV l) ⟨h1, .inr ⟨g, c, cur, by rw [e3], h4, h5, h6⟩⟩ (g := g) rfl
    refine ⟨g, rfl, ?_, ?_, ?_⟩
    · have := hc _ _ hg.1; rw [addr_add] at this; simpa using this
    · have := hc _ _ hg.2.1; rw [addr_add] at this; simpa using this
    · have := hc _ _ hg.2.2; rw [addr_add] at this; simpa using this

/-- The newest version among the first k that is true at t; -1: none. -/
def lastLe (l : List V) (t : Int) : Nat → Int
  | 0 => -1
  | k + 1 => match l[k]? with
    | some v => if v.from_ ≤ t then k else lastLe l t k
    | none => -1
def sees (l : List V) (t : Int) : Int := lastLe l t l.length

theorem at_any (w : World) (B b : Nat) (own : List Nat) (s : St) (t : Int) (hr : Rep w B b own s) (hm : s.l.length ≤ 1000000) :
    Calls Try.prog 22 #[.pointer (some ⟨b, 0, none⟩), .int .i64 t] w fun e w' => e = .returned (.int .i64 (sees s.l t)) ∧ w = w' := by
  obtain ⟨a, cap, hb, ho, hB, _⟩ := hr
  have c0 := hb.cell (i := 0) rfl
  have HO := Lib.hid ho
  clear hb ho
  go_enter Try.func22, Try.ntmps22
  go_wp2_with fail
  go_loop [5] (fun i => ∃ (k : Nat) (q : Int), k ≤ s.l.length ∧ i = .int .i64 q ∧ Hid (q = (k : Int) - 1) ∧ -1 ≤ q ∧ q ≤ 1000000 ∧ Hid (lastLe s.l t k = sees s.l t)) (fun i => (intOf i + 1).toNat)
  case atStart => exact ⟨s.l.length, _, Nat.le_refl _, rfl, Lib.hid rfl, by omega, by omega, Lib.hid rfl⟩
  case round =>
    obtain ⟨k, q, hk, rfl, hq, hq1, hq2, hh⟩ := hrel
    cases k with
    | zero =>
      obtain rfl : q = -1 := hq.out
      clear hq hq1 hq2
      go_wp2_with fail
      go_ret
      exact ⟨by rw [← hh.out]; rfl, rfl⟩
    | succ k =>
      obtain rfl : q = (k : Int) := by have := hq.out; omega
      clear hq hq1
      obtain ⟨v, hv⟩ : ∃ v, s.l[k]? = some v := ⟨_, List.getElem?_eq_getElem (by omega)⟩
      have HV := Lib.hid hv
      obtain ⟨g, rfl, d0, _, _⟩ := own_cells HO.out hv
      clear hv
      by_cases hle : v.from_ ≤ t
      · have HH : Hid ((k : Int) = sees s.l t) := Lib.hid (by have := hh.out; rw [lastLe, HV.out] at this; simp only [hle, if_true] at this; exact this)
        go_wp2_with fail
        go_ret
        exact ⟨by rw [← HH.out]; rfl, rfl⟩
      · have HH : Hid (lastLe s.l t k = sees s.l t) := Lib.hid (by have := hh.out; rw [lastLe, HV.out] at this; simp only [hle, if_false] at this; exact this)
        go_wp2_with fail
        go_round
        case rel => exact ⟨k, _, by omega, rfl, Lib.hid rfl, by omega, by omega, HH⟩
        case measure => simp [intOf]
end Go.Proofs.Ytelmaaokaakpbaa

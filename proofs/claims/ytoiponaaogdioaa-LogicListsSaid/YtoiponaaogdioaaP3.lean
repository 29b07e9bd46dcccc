/- Contracts of All, Any and of the references, over any row of integers that can be read. Conditions: the row is readable. -/
import Derived.Test.YtoiponaaogdioaaP2
import Derived.WalkKit
import Derived.ProofKit
import Derived.OpenShut
import Derived.Outline
import Derived.WalkLawsBesides
import Derived.WalkSpells
import Derived.Deep.QuietTactic
import Derived.BigQuiet
import Derived.WalkSmall
import Derived.Lib.Hide
namespace Go.Proofs.Ytoiponaaogdioaa
open Go.RowKit


theorem below_step {B : Nat} {a b c : World} (h : Below B a b) (hB : B = a.heap.size) (k : Below b.heap.size b c) : Below B a c := h.trans (k.mono (by rw [hB]; exact h.size))

theorem works_any (w : World) : Calls Try.prog 12 #[] w fun e w' => e = .returned (.bool true) ∧ Below w.heap.size w w' := by
  have e1 : (tAnd 1 1 == 1) = true := by decide
  have e2 : (tOr 0 2 == 2) = true := by decide
  have e3 : (tNot 0 == 1) = true := by decide
  go_enter Try.func12, Try.ntmps12
  go_wp2_with fail
  refine (and_any _ _ _).mono ?_; rintro e w1 ⟨rfl, hb1⟩
  go_wp2_with fail
  refine (or_any _ _ _).mono ?_; rintro e w2 ⟨rfl, hb2⟩
  go_wp2_with fail
  refine (not_any _ _).mono ?_; rintro e w3 ⟨rfl, rfl⟩
  go_wp2_with fail
  go_ret
  exact ⟨rfl, below_step hb1 rfl hb2⟩
def IsRow (k : IntKind) (w : World) (a : Option Addr) (len cap : Nat) (zs : List Int) : Prop :=
  (a = none ∧ len = 0 ∧ cap = 0 ∧ zs = []) ∨
  ∃ x, a = some x ∧ len ≤ cap ∧ cap ≤ maxLen ∧ zs.length = cap ∧ (∀ i, i < zs.length → w.cell? (x.add i) = some (.int k (zs.getD i 0))) ∧ ∀ n ∈ zs, (Lit.int k n).wf = true


theorem IsRow.cells {w : World} {a : Option Addr} {len cap : Nat} {zs : List Int} (h : IsRow .i64 w a len cap zs) :
    len = 0 ∨ ∃ b off, a = some ⟨b, off, none⟩ ∧ b < w.heap.size ∧ len ≤ zs.length ∧ len ≤ maxLen ∧ ∀ i, i < len → ∃ x, zs[i]? = some x ∧ w.cell? ⟨b, off + i, none⟩ = some (.int .i64 x) := by
  rcases h with h | ⟨x, rfl, hl, hm, hz, hc, _⟩
  · exact .inl h.2.1
  · by_cases h0 : len = 0
    · exact .inl h0
    · obtain ⟨b, off, spot⟩ := x
      have h1 := hc 0 (by omega)
      have hspot : spot = none := by simpa [Addr.add] using World.cell?_spot h1
      subst hspot
      refine .inr ⟨b, off, rfl, by simpa [Addr.add] using World.block_lt_of_cell? w _ h1, by omega, by omega, fun i hi => ?_⟩
      have h2 := hc i (by omega)
      rw [List.getD_eq_getElem?_getD, List.getElem?_eq_getElem (by omega)] at h2
      refine ⟨_, List.getElem?_eq_getElem (by omega), ?_⟩
      rw [show (⟨b, off + i, none⟩ : Addr) = (⟨b, off, none⟩ : Addr).add i from by by_cases hi0 : i = 0 <;> simp [Addr.add, hi0]]
      simpa using h2
theorem take_succ_some {α : Type} {l : List α} {k : Nat} {x : α} (h : l[k]? = some x) : l.take (k + 1) = l.take k ++ [x] := by
  rw [List.take_add_one, h]; rfl
theorem foldl_take_succ {α β : Type} (f : β → α → β) (z : β) {l : List α} {k : Nat} {x : α} (h : l[k]? = some x) : (l.take (k + 1)).foldl f z = f ((l.take k).foldl f z) x := by
  rw [take_succ_some h, List.foldl_append]; rfl
theorem foldl_stop {α β : Type} (f : β → α → β) (s : β) (hs : ∀ y, f s y = s) : ∀ l : List α, l.foldl f s = s
  | [] => rfl
  | y :: l => by rw [List.foldl_cons, hs, foldl_stop f s hs l]
theorem foldl_take_stop {α β : Type} (f : β → α → β) (z s : β) (hs : ∀ y, f s y = s) {l : List α} {k n : Nat} {x : α} (h : l[k]? = some x) (hk : k < n) (hx : f ((l.take k).foldl f z) x = s) : (l.take n).foldl f z = s := by
  have h1 : l.take n = l.take (k + 1) ++ (l.drop (k + 1)).take (n - (k + 1)) := by
    conv => lhs; rw [show n = (k + 1) + (n - (k + 1)) from by omega]
    rw [List.take_add]
  rw [h1, List.foldl_append, foldl_take_succ f z h, hx, foldl_stop f s hs]

theorem all_any (a : Option Addr) (len cap : Nat) (zs : List Int) (w : World) (h : IsRow .i64 w a len cap zs) : Calls Try.prog 20 #[.slice a len cap] w fun e w' => e = .returned (.int .i64 ((zs.take len).foldl tAnd 1)) ∧ Below w.heap.size w w' := by
  rcases h.cells with rfl | ⟨b, off, rfl, hbs, hlen, hmax, hc⟩
  · go_enter Try.func20, Try.ntmps20
    go_wp2_with fail
    go_loopw [3, 8] (fun t i wr => i = .int .i64 0 ∧ t = .int .i64 1 ∧ w = wr) (fun _ _ _ => 0)
    case atStart => exact ⟨rfl, rfl, rfl⟩
    case round =>
      obtain ⟨rfl, rfl, rfl⟩ := hrel
      go_wp2_with fail
      go_ret
      exact ⟨rfl, Below.refl _ _⟩
  · unfold maxLen at hmax
    go_enter Try.func20, Try.ntmps20
    go_wp2_with fail
    go_loopw [3, 8] (fun t i wr => ∃ k : Nat, k ≤ len ∧ i = .int .i64 k ∧ t = .int .i64 ((zs.take k).foldl tAnd 1) ∧ Below w.heap.size w wr) (fun _ i _ => len - (intOf i).toNat)
    case atStart => exact ⟨0, Nat.zero_le _, rfl, rfl, Below.refl _ _⟩
    case round =>
      obtain ⟨k, hk, rfl, rfl, hb⟩ := hrel
      by_cases hlt : k < len
      · obtain ⟨x, hx, hcell0⟩ := hc k hlt
        have hcell : wr.cell? ⟨b, off + k, none⟩ = some (.int .i64 x) := by rw [hb.cell (by exact hbs)]; exact hcell0
        have HS := Lib.hid (foldl_take_succ tAnd 1 hx)
        clear hx hcell0
        go_wp2_with fail
        refine (and_any _ _ _).mono ?_; rintro e w1 ⟨rfl, hb1⟩
        go_wp2_with fail
        go_roundw
        case rel => exact ⟨k + 1, by omega, by go_num, by rw [HS.out], below_step hb rfl hb1⟩
        case measure => simp [intOf]; omega
      · obtain rfl : k = len := by omega
        go_wp2_with fail
        go_ret
        exact ⟨rfl, hb⟩

theorem any_any (a : Option Addr) (len cap : Nat) (zs : List Int) (w : World) (h : IsRow .i64 w a len cap zs) : Calls Try.prog 22 #[.slice a len cap] w fun e w' => e = .returned (.int .i64 ((zs.take len).foldl tOr 0)) ∧ Below w.heap.size w w' := by
  rcases h.cells with rfl | ⟨b, off, rfl, hbs, hlen, hmax, hc⟩
  · go_enter Try.func22, Try.ntmps22
    go_wp2_with fail
    go_loopw [3, 8] (fun t i wr => i = .int .i64 0 ∧ t = .int .i64 0 ∧ w = wr) (fun _ _ _ => 0)
    case atStart => exact ⟨rfl, rfl, rfl⟩
    case round =>
      obtain ⟨rfl, rfl, rfl⟩ := hrel
      go_wp2_with fail
      go_ret
      exact ⟨rfl, Below.refl _ _⟩
  · unfold maxLen at hmax
    go_enter Try.func22, Try.ntmps22
    go_wp2_with fail
    go_loopw [3, 8] (fun t i wr => ∃ k : Nat, k ≤ len ∧ i = .int .i64 k ∧ t = .int .i64 ((zs.take k).foldl tOr 0) ∧ Below w.heap.size w wr) (fun _ i _ => len - (intOf i).toNat)
    case atStart => exact ⟨0, Nat.zero_le _, rfl, rfl, Below.refl _ _⟩
    case round =>
      obtain ⟨k, hk, rfl, rfl, hb⟩ := hrel
      by_cases hlt : k < len
      · obtain ⟨x, hx, hcell0⟩ := hc k hlt
        have hcell : wr.cell? ⟨b, off + k, none⟩ = some (.int .i64 x) := by rw [hb.cell (by exact hbs)]; exact hcell0
        have HS := Lib.hid (foldl_take_succ tOr 0 hx)
        clear hx hcell0
        go_wp2_with fail
        refine (or_any _ _ _).mono ?_; rintro e w1 ⟨rfl, hb1⟩
        go_wp2_with fail
        go_roundw
        case rel => exact ⟨k + 1, by omega, by go_num, by rw [HS.out], below_step hb rfl hb1⟩
        case measure => simp [intOf]; omega
      · obtain rfl : k = len := by omega
        go_wp2_with fail
        go_ret
        exact ⟨rfl, hb⟩

theorem rall_any (a : Option Addr) (len cap : Nat) (zs : List Int) (w : World) (h : IsRow .i64 w a len cap zs) : Calls Try.prog 21 #[.slice a len cap] w fun e w' => e = .returned (.int .i64 ((zs.take len).foldl tAnd 1)) ∧ w = w' := by
  rcases h.cells with rfl | ⟨b, off, rfl, hbs, hlen, hmax, hc⟩
  · go_enter Try.func21, Try.ntmps21
    go_wp2_with fail
    go_loop [3, 4] (fun t i => i = .int .i64 0 ∧ t = .int .i64 1) (fun _ _ => 0)
    case atStart => exact ⟨rfl, rfl⟩
    case round =>
      obtain ⟨rfl, rfl⟩ := hrel
      go_wp2_with fail
      go_ret
      exact ⟨rfl, rfl⟩
  · unfold maxLen at hmax
    go_enter Try.func21, Try.ntmps21
    go_wp2_with fail
    go_loop [3, 4] (fun t i => ∃ (k : Nat) (u : Int), k ≤ len ∧ i = .int .i64 k ∧ t = .int .i64 u ∧ Hid (u = (zs.take k).foldl tAnd 1 ∧ (u = 1 ∨ u = 2))) (fun _ i => len - (intOf i).toNat)
    case atStart => exact ⟨0, _, Nat.zero_le _, rfl, rfl, Lib.hid ⟨rfl, .inl rfl⟩⟩
    case round =>
      obtain ⟨k, u, hk, rfl, rfl, hu⟩ := hrel
      by_cases hlt : k < len
      · obtain ⟨x, hx, hcell⟩ := hc k hlt
        have HS := Lib.hid (foldl_take_succ tAnd 1 hx)
        have HZ := Lib.hid (foldl_take_stop tAnd 1 0 (by intro y; simp [tAnd]) hx hlt)
        clear hx
        rcases tKnown_cases x with ⟨rfl, _⟩ | ⟨rfl, _⟩ | ⟨h0, h1, _⟩
        all_goals
          try (have h0' : (x == 0) = false := by simpa using h0)
          try (have h1' : (x == 1) = false := by simpa using h1)
          go_wp2_with fail
          try (refine (rknown_any _ _).mono ?_; rintro e w1 ⟨rfl, rfl⟩; go_wp2_with fail)
          first
          | (go_ret
             refine ⟨?_, rfl⟩
             rw [HZ.out (by have := hu.out; simp only [tAnd]; rcases this with ⟨hp, hq⟩; rw [← hp]; rcases hq with hq | hq <;> rw [hq] <;> rfl)]; rfl)
          | (go_round
             case rel =>
               refine ⟨k + 1, _, by omega, by go_num, rfl, Lib.hid ⟨?_, ?_⟩⟩
               · rw [HS.out, ← hu.out.1]; rcases hu.out.2 with hq | hq <;> rw [hq] <;> simp [tAnd, *]
               · first | exact hu.out.2 | exact .inr rfl
             case measure => simp [intOf]; omega)
      · obtain rfl : k = len := by omega
        go_wp2_with fail
        go_ret
        exact ⟨by rw [← hu.out.1]; rfl, rfl⟩

theorem rany_any (a : Option Addr) (len cap : Nat) (zs : List Int) (w : World) (h : IsRow .i64 w a len cap zs) : Calls Try.prog 23 #[.slice a len cap] w fun e w' => e = .returned (.int .i64 ((zs.take len).foldl tOr 0)) ∧ w = w' := by
  rcases h.cells with rfl | ⟨b, off, rfl, hbs, hlen, hmax, hc⟩
  · go_enter Try.func23, Try.ntmps23
    go_wp2_with fail
    go_loop [3, 4] (fun t i => i = .int .i64 0 ∧ t = .int .i64 0) (fun _ _ => 0)
    case atStart => exact ⟨rfl, rfl⟩
    case round =>
      obtain ⟨rfl, rfl⟩ := hrel
      go_wp2_with fail
      go_ret
      exact ⟨rfl, rfl⟩
  · unfold maxLen at hmax
    go_enter Try.func23, Try.ntmps23
    go_wp2_with fail
    go_loop [3, 4] (fun t i => ∃ (k : Nat) (u : Int), k ≤ len ∧ i = .int .i64 k ∧ t = .int .i64 u ∧ Hid (u = (zs.take k).foldl tOr 0 ∧ (u = 0 ∨ u = 2))) (fun _ i => len - (intOf i).toNat)
    case atStart => exact ⟨0, _, Nat.zero_le _, rfl, rfl, Lib.hid ⟨rfl, .inl rfl⟩⟩
    case round =>
      obtain ⟨k, u, hk, rfl, rfl, hu⟩ := hrel
      by_cases hlt : k < len
      · obtain ⟨x, hx, hcell⟩ := hc k hlt
        have HS := Lib.hid (foldl_take_succ tOr 0 hx)
        have HZ := Lib.hid (foldl_take_stop tOr 0 1 (by intro y; simp [tOr]) hx hlt)
        clear hx
        rcases tKnown_cases x with ⟨rfl, _⟩ | ⟨rfl, _⟩ | ⟨h0, h1, _⟩
        all_goals
          try (have h0' : (x == 0) = false := by simpa using h0)
          try (have h1' : (x == 1) = false := by simpa using h1)
          go_wp2_with fail
          try (refine (rknown_any _ _).mono ?_; rintro e w1 ⟨rfl, rfl⟩; go_wp2_with fail)
          first
          | (go_ret
             refine ⟨?_, rfl⟩
             rw [HZ.out (by have := hu.out; simp only [tOr]; rcases this with ⟨hp, hq⟩; rw [← hp]; rcases hq with hq | hq <;> rw [hq] <;> rfl)]; rfl)
          | (go_round
             case rel =>
               refine ⟨k + 1, _, by omega, by go_num, rfl, Lib.hid ⟨?_, ?_⟩⟩
               · rw [HS.out, ← hu.out.1]; rcases hu.out.2 with hq | hq <;> rw [hq] <;> simp [tOr, *]
               · first | exact hu.out.2 | exact .inr rfl
             case measure => simp [intOf]; omega)
      · obtain rfl : k = len := by omega
        go_wp2_with fail
        go_ret
        exact ⟨by rw [← hu.out.1]; rfl, rfl⟩
end Go.Proofs.Ytoiponaaogdioaa

/- Contracts of All, Any and of the references, over any row of integers that can be read. Conditions: the row is readable. -/
import Derived.Test.YtoiponaaogdioaaP2
import Derived.WalkKit
import Derived.ProofKit
import Derived.OpenShut
import Derived.Outline
import Derived.WalkLawsBesides
import Derived.WalkSpells
import Derived.Deep.QuietTactic
import Derived.BigQuiet
import Derived.WalkSmall
import Derived.Lib.Hide
import Derived.Test.YtoiponaaogdioaaBase
namespace Go.Proofs.Ytoiponaaogdioaa
open Go.RowKit


theorem works_any (w : World) : Calls Try.prog 12 #[] w fun e w' => e = .returned (.bool true) ∧ Below w.heap.size w w' := by
  have e1 : (tAnd 1 1 == 1) = true := by decide
  have e2 : (tOr 0 2 == 2) = true := by decide
  have e3 : (tNot 0 == 1) = true := by decide
  go_enter Try.func12, Try.ntmps12
  go_wp2_with fail
  refine (and_any _ _ _).mono ?_; rintro e w1 ⟨rfl, hb1⟩
  go_wp2_with fail
  refine (or_any _ _ _).mono ?_; rintro e w2 ⟨rfl, hb2⟩
  go_wp2_with fail
  refine (not_any _ _).mono ?_; rintro e w3 ⟨rfl, rfl⟩
  go_wp2_with fail
  go_ret
  exact ⟨rfl, below_step hb1 rfl hb2⟩
theorem all_any (a : Option Addr) (cap : Nat) (zs : List Int) (w : World) (hmax : zs.length ≤ maxLen) (h : Cells w.heap.size w a (zs.map (.int .i64))) : Calls Try.prog 20 #[.slice a zs.length cap] w fun e w' => e = .returned (.int .i64 (zs.foldl tAnd 1)) ∧ Below w.heap.size w w' := by
  rcases h with hnil | ⟨b, off, rfl, hbs, hc⟩
  · obtain rfl : zs = [] := by simpa using hnil
    go_enter Try.func20, Try.ntmps20
    go_wp2_with fail
    go_loopw [3, 8] (fun t i wr => i = .int .i64 0 ∧ t = .int .i64 1 ∧ w = wr) (fun _ _ _ => 0)
    case atStart => exact ⟨rfl, rfl, rfl⟩
    case round =>
      obtain ⟨rfl, rfl, rfl⟩ := hrel
      go_wp2_with fail
      go_ret
      exact ⟨rfl, Below.refl _ _⟩
  · unfold maxLen at hmax
    go_enter Try.func20, Try.ntmps20
    go_wp2_with fail
    go_loopw [3, 8] (fun t i wr => ∃ k : Nat, k ≤ zs.length ∧ i = .int .i64 k ∧ t = .int .i64 ((zs.take k).foldl tAnd 1) ∧ Below w.heap.size w wr) (fun _ i _ => zs.length - (intOf i).toNat)
    case atStart => exact ⟨0, Nat.zero_le _, rfl, rfl, Below.refl _ _⟩
    case round =>
      obtain ⟨k, hk, rfl, rfl, hb⟩ := hrel
      by_cases hlt : k < zs.length
      · obtain ⟨x, hx⟩ : ∃ x, zs[k]? = some x := ⟨_, List.getElem?_eq_getElem hlt⟩
        have hcell0 := hc k (.int .i64 x) (by simp [hx])
        have hcell : wr.cell? ⟨b, off + k, none⟩ = some (.int .i64 x) := by rw [hb.cell (by exact hbs)]; exact hcell0
        have HS := Lib.hid (foldl_take_succ tAnd 1 hx)
        clear hx hcell0 hc
        go_wp2_with fail
        refine (and_any _ _ _).mono ?_; rintro e w1 ⟨rfl, hb1⟩
        go_wp2_with fail
        go_roundw
        case rel => exact ⟨k + 1, by omega, by go_num, by rw [HS.out], below_step hb rfl hb1⟩
        case measure => simp [intOf]; omega
      · have hk2 : k = zs.length := by omega
        have HK : Hid (zs.take k = zs) := by rw [hk2]; exact Lib.hid List.take_length
        clear hc
        go_wp2_with fail
        go_ret
        exact ⟨by rw [HK.out]; rfl, hb⟩

theorem any_any (a : Option Addr) (cap : Nat) (zs : List Int) (w : World) (hmax : zs.length ≤ maxLen) (h : Cells w.heap.size w a (zs.map (.int .i64))) : Calls Try.prog 22 #[.slice a zs.length cap] w fun e w' => e = .returned (.int .i64 (zs.foldl tOr 0)) ∧ Below w.heap.size w w' := by
  rcases h with hnil | ⟨b, off, rfl, hbs, hc⟩
  · obtain rfl : zs = [] := by simpa using hnil
    go_enter Try.func22, Try.ntmps22
    go_wp2_with fail
    go_loopw [3, 8] (fun t i wr => i = .int .i64 0 ∧ t = .int .i64 0 ∧ w = wr) (fun _ _ _ => 0)
    case atStart => exact ⟨rfl, rfl, rfl⟩
    case round =>
      obtain ⟨rfl, rfl, rfl⟩ := hrel
      go_wp2_with fail
      go_ret
      exact ⟨rfl, Below.refl _ _⟩
  · unfold maxLen at hmax
    go_enter Try.func22, Try.ntmps22
    go_wp2_with fail
    go_loopw [3, 8] (fun t i wr => ∃ k : Nat, k ≤ zs.length ∧ i = .int .i64 k ∧ t = .int .i64 ((zs.take k).foldl tOr 0) ∧ Below w.heap.size w wr) (fun _ i _ => zs.length - (intOf i).toNat)
    case atStart => exact ⟨0, Nat.zero_le _, rfl, rfl, Below.refl _ _⟩
    case round =>
      obtain ⟨k, hk, rfl, rfl, hb⟩ := hrel
      by_cases hlt : k < zs.length
      · obtain ⟨x, hx⟩ : ∃ x, zs[k]? = some x := ⟨_, List.getElem?_eq_getElem hlt⟩
        have hcell0 := hc k (.int .i64 x) (by simp [hx])
        have hcell : wr.cell? ⟨b, off + k, none⟩ = some (.int .i64 x) := by rw [hb.cell (by exact hbs)]; exact hcell0
        have HS := Lib.hid (foldl_take_succ tOr 0 hx)
        clear hx hcell0 hc
        go_wp2_with fail
        refine (or_any _ _ _).mono ?_; rintro e w1 ⟨rfl, hb1⟩
        go_wp2_with fail
        go_roundw
        case rel => exact ⟨k + 1, by omega, by go_num, by rw [HS.out], below_step hb rfl hb1⟩
        case measure => simp [intOf]; omega
      · have hk2 : k = zs.length := by omega
        have HK : Hid (zs.take k = zs) := by rw [hk2]; exact Lib.hid List.take_length
        clear hc
        go_wp2_with fail
        go_ret
        exact ⟨by rw [HK.out]; rfl, hb⟩

theorem rall_any (a : Option Addr) (cap : Nat) (zs : List Int) (w : World) (hmax : zs.length ≤ maxLen) (h : Cells w.heap.size w a (zs.map (.int .i64))) : Calls Try.prog 21 #[.slice a zs.length cap] w fun e w' => e = .returned (.int .i64 (zs.foldl tAnd 1)) ∧ w = w' := by
  rcases h with hnil | ⟨b, off, rfl, hbs, hc⟩
  · obtain rfl : zs = [] := by simpa using hnil
    go_enter Try.func21, Try.ntmps21
    go_wp2_with fail
    go_loop [3, 4] (fun t i => i = .int .i64 0 ∧ t = .int .i64 1) (fun _ _ => 0)
    case atStart => exact ⟨rfl, rfl⟩
    case round =>
      obtain ⟨rfl, rfl⟩ := hrel
      go_wp2_with fail
      go_ret
      exact ⟨rfl, rfl⟩
  · unfold maxLen at hmax
    go_enter Try.func21, Try.ntmps21
    go_wp2_with fail
    go_loop [3, 4] (fun t i => ∃ (k : Nat) (u : Int), k ≤ zs.length ∧ i = .int .i64 k ∧ t = .int .i64 u ∧ Hid (u = (zs.take k).foldl tAnd 1 ∧ (u = 1 ∨ u = 2))) (fun _ i => zs.length - (intOf i).toNat)
    case atStart => exact ⟨0, _, Nat.zero_le _, rfl, rfl, Lib.hid ⟨rfl, .inl rfl⟩⟩
    case round =>
      obtain ⟨k, u, hk, rfl, rfl, hu⟩ := hrel
      by_cases hlt : k < zs.length
      · obtain ⟨x, hx⟩ : ∃ x, zs[k]? = some x := ⟨_, List.getElem?_eq_getElem hlt⟩
        have hcell := hc k (.int .i64 x) (by simp [hx])
        have HS := Lib.hid (foldl_take_succ tAnd 1 hx)
        have HZ := Lib.hid (foldl_take_stop tAnd 1 0 (by intro y; simp [tAnd]) hx)
        clear hx hc
        rcases tKnown_cases x with ⟨rfl, _⟩ | ⟨rfl, _⟩ | ⟨h0, h1, _⟩
        all_goals
          try (have h0' : (x == 0) = false := by simpa using h0)
          try (have h1' : (x == 1) = false := by simpa using h1)
          go_wp2_with fail
          try (refine (rknown_any _ _).mono ?_; rintro e w1 ⟨rfl, rfl⟩; go_wp2_with fail)
          first
          | (go_ret
             refine ⟨?_, rfl⟩
             rw [HZ.out (by have := hu.out; simp only [tAnd]; rcases this with ⟨hp, hq⟩; rw [← hp]; rcases hq with hq | hq <;> rw [hq] <;> rfl)]; rfl)
          | (go_round
             case rel =>
               refine ⟨k + 1, _, by omega, by go_num, rfl, Lib.hid ⟨?_, ?_⟩⟩
               · rw [HS.out, ← hu.out.1]; rcases hu.out.2 with hq | hq <;> rw [hq] <;> simp [tAnd, *]
               · first | exact hu.out.2 | exact .inr rfl
             case measure => simp [intOf]; omega)
      · have hk2 : k = zs.length := by omega
        have HK : Hid (zs.take k = zs) := by rw [hk2]; exact Lib.hid List.take_length
        clear hc
        go_wp2_with fail
        go_ret
        exact ⟨by rw [hu.out.1, HK.out]; rfl, rfl⟩

theorem rany_any (a : Option Addr) (cap : Nat) (zs : List Int) (w : World) (hmax : zs.length ≤ maxLen) (h : Cells w.heap.size w a (zs.map (.int .i64))) : Calls Try.prog 23 #[.slice a zs.length cap] w fun e w' => e = .returned (.int .i64 (zs.foldl tOr 0)) ∧ w = w' := by
  rcases h with hnil | ⟨b, off, rfl, hbs, hc⟩
  · obtain rfl : zs = [] := by simpa using hnil
    go_enter Try.func23, Try.ntmps23
    go_wp2_with fail
    go_loop [3, 4] (fun t i => i = .int .i64 0 ∧ t = .int .i64 0) (fun _ _ => 0)
    case atStart => exact ⟨rfl, rfl⟩
    case round =>
      obtain ⟨rfl, rfl⟩ := hrel
      go_wp2_with fail
      go_ret
      exact ⟨rfl, rfl⟩
  · unfold maxLen at hmax
    go_enter Try.func23, Try.ntmps23
    go_wp2_with fail
    go_loop [3, 4] (fun t i => ∃ (k : Nat) (u : Int), k ≤ zs.length ∧ i = .int .i64 k ∧ t = .int .i64 u ∧ Hid (u = (zs.take k).foldl tOr 0 ∧ (u = 0 ∨ u = 2))) (fun _ i => zs.length - (intOf i).toNat)
    case atStart => exact ⟨0, _, Nat.zero_le _, rfl, rfl, Lib.hid ⟨rfl, .inl rfl⟩⟩
    case round =>
      obtain ⟨k, u, hk, rfl, rfl, hu⟩ := hrel
      by_cases hlt : k < zs.length
      · obtain ⟨x, hx⟩ : ∃ x, zs[k]? = some x := ⟨_, List.getElem?_eq_getElem hlt⟩
        have hcell := hc k (.int .i64 x) (by simp [hx])
        have HS := Lib.hid (foldl_take_succ tOr 0 hx)
        have HZ := Lib.hid (foldl_take_stop tOr 0 1 (by intro y; simp [tOr]) hx)
        clear hx hc
        rcases tKnown_cases x with ⟨rfl, _⟩ | ⟨rfl, _⟩ | ⟨h0, h1, _⟩
        all_goals
          try (have h0' : (x == 0) = false := by simpa using h0)
          try (have h1' : (x == 1) = false := by simpa using h1)
          go_wp2_with fail
          try (refine (rknown_any _ _).mono ?_; rintro e w1 ⟨rfl, rfl⟩; go_wp2_with fail)
          first
          | (go_ret
             refine ⟨?_, rfl⟩
             rw [HZ.out (by have := hu.out; simp only [tOr]; rcases this with ⟨hp, hq⟩; rw [← hp]; rcases hq with hq | hq <;> rw [hq] <;> rfl)]; rfl)
          | (go_round
             case rel =>
               refine ⟨k + 1, _, by omega, by go_num, rfl, Lib.hid ⟨?_, ?_⟩⟩
               · rw [HS.out, ← hu.out.1]; rcases hu.out.2 with hq | hq <;> rw [hq] <;> simp [tOr, *]
               · first | exact hu.out.2 | exact .inr rfl
             case measure => simp [intOf]; omega)
      · have hk2 : k = zs.length := by omega
        have HK : Hid (zs.take k = zs) := by rw [hk2]; exact Lib.hid List.take_length
        clear hc
        go_wp2_with fail
        go_ret
        exact ⟨by rw [hu.out.1, HK.out]; rfl, rfl⟩
end Go.Proofs.Ytoiponaaogdioaa

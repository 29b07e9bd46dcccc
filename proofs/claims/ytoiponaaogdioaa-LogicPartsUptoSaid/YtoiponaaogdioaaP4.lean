/- The walks of the laws of layer 2. Conditions: slices are readable rows. -/
import Derived.Test.YtoiponaaogdioaaP3
import Derived.WalkKit
import Derived.ProofKit
import Derived.OpenShut
import Derived.Outline
import Derived.WalkLawsBesides
import Derived.WalkSpells
import Derived.Deep.QuietTactic
import Derived.BigQuiet
import Derived.WalkSmall
import Derived.Lib.Hide
namespace Go.Proofs.Ytoiponaaogdioaa
open Go.RowKit



theorem tables_walk (a b : Int) (x : Bool) (w : World) : Calls Try.prog 4 #[.int .i64 a, .int .i64 b, .bool x] w fun e w' => e = .returned (.bool true) ∧ Below w.heap.size w w' := by
  have hB0 : Below w.heap.size w w := Below.refl _ _
  cases x
  all_goals
    go_enter Try.func4, Try.ntmps4
    go_wp2_with (first
    | (go_at_call 8; refine (of_any _ _).mono ?_; rintro e w' ⟨rfl, rfl⟩)
    | (go_at_call 13; refine (rof_any _ _).mono ?_; rintro e w' ⟨rfl, rfl⟩)
    | (go_at_call 14; refine (is_any _ _).mono ?_; rintro e w' ⟨rfl, rfl⟩)
    | (go_at_call 15; refine (not_any _ _).mono ?_; rintro e w' ⟨rfl, rfl⟩)
    | (go_at_call 16; refine (rnot_any _ _).mono ?_; rintro e w' ⟨rfl, rfl⟩)
    | (go_at_call 17; refine (rand_any _ _ _).mono ?_; rintro e w' ⟨rfl, rfl⟩)
    | (go_at_call 18; refine (ror_any _ _ _).mono ?_; rintro e w' ⟨rfl, rfl⟩)
    | (go_at_call 19; refine (rxor_any _ _ _).mono ?_; rintro e w' ⟨rfl, rfl⟩)
    | (go_at_call 9; refine (Calls.below (and_any _ _ _) (by assumption)).mono ?_; rintro e w' ⟨rfl, hB⟩)
    | (go_at_call 10; refine (Calls.below (or_any _ _ _) (by assumption)).mono ?_; rintro e w' ⟨rfl, hB⟩)
    | (go_at_call 11; refine (Calls.below (xor_any _ _ _) (by assumption)).mono ?_; rintro e w' ⟨rfl, hB⟩)
    | (go_at_call 12; refine (Calls.below (works_any _) (by assumption)).mono ?_; rintro e w' ⟨rfl, hB⟩))
    go_ret
    exact ⟨rfl, by assumption⟩

theorem known_walk (a : Int) (b : Bool) (w : World) : Calls Try.prog 3 #[.int .i64 a, .bool b] w fun e w' => e = .returned (.bool true) ∧ Below w.heap.size w w' := by
  have hB0 : Below w.heap.size w w := Below.refl _ _
  have e1 : ∀ t, tAnd 0 t = 0 := fun t => by simp [tAnd]
  have e2 : ∀ t, tOr 1 t = 1 := fun t => by simp [tOr]
  have e3 : ∀ t, tXor t 2 = 2 := fun t => by simp [tXor]
  have e4 : tAnd 1 2 = 2 := rfl
  have e5 : tOr 0 2 = 2 := rfl
  rcases tKnown_cases a with ⟨rfl, h⟩ | ⟨rfl, h⟩ | ⟨h0, h1, h⟩
  all_goals
    clear h
    try (have f1 : tAnd a 2 = 2 := by simp [tAnd, *])
    try (have f2 : tOr a 2 = 2 := by simp [tOr, *])
    cases b
  all_goals
    go_enter Try.func3, Try.ntmps3
    go_wp2_with (first
    | (go_at_call 8; refine (of_any _ _).mono ?_; rintro e w' ⟨rfl, rfl⟩)
    | (go_at_call 13; refine (rof_any _ _).mono ?_; rintro e w' ⟨rfl, rfl⟩)
    | (go_at_call 14; refine (is_any _ _).mono ?_; rintro e w' ⟨rfl, rfl⟩)
    | (go_at_call 15; refine (not_any _ _).mono ?_; rintro e w' ⟨rfl, rfl⟩)
    | (go_at_call 16; refine (rnot_any _ _).mono ?_; rintro e w' ⟨rfl, rfl⟩)
    | (go_at_call 17; refine (rand_any _ _ _).mono ?_; rintro e w' ⟨rfl, rfl⟩)
    | (go_at_call 18; refine (ror_any _ _ _).mono ?_; rintro e w' ⟨rfl, rfl⟩)
    | (go_at_call 19; refine (rxor_any _ _ _).mono ?_; rintro e w' ⟨rfl, rfl⟩)
    | (go_at_call 9; refine (Calls.below (and_any _ _ _) (by assumption)).mono ?_; rintro e w' ⟨rfl, hB⟩)
    | (go_at_call 10; refine (Calls.below (or_any _ _ _) (by assumption)).mono ?_; rintro e w' ⟨rfl, hB⟩)
    | (go_at_call 11; refine (Calls.below (xor_any _ _ _) (by assumption)).mono ?_; rintro e w' ⟨rfl, hB⟩)
    | (go_at_call 12; refine (Calls.below (works_any _) (by assumption)).mono ?_; rintro e w' ⟨rfl, hB⟩))
    go_ret
    exact ⟨rfl, by assumption⟩

theorem lists_walk (a : Option Addr) (len cap : Nat) (zs : List Int) (w : World) (h : IsRow .i64 w a len cap zs) : Calls Try.prog 5 #[.slice a len cap] w fun e w' => e = .returned (.bool true) ∧ Below w.heap.size w w' := by
  obtain ⟨ys, hy, rfl, hm, hc⟩ := h.cells; clear hy
  have hB0 : Below w.heap.size w w := Below.refl _ _
  clear h
  have HM := Lib.hid hm; clear hm
  go_enter Try.func5, Try.ntmps5
  go_wp2_with fail
  refine (Calls.below (all_any a cap ys _ HM.out hc) (by assumption)).mono ?_; rintro e w1 ⟨rfl, hB1⟩
  have h1 := (hc.below hB1 (Nat.le_refl _)).mono hB1.size
  go_wp2_with fail
  refine (rall_any a cap ys _ HM.out h1).mono ?_; rintro e w' ⟨rfl, rfl⟩
  go_wp2_with fail
  refine (Calls.below (any_any a cap ys _ HM.out h1) (by assumption)).mono ?_; rintro e w2 ⟨rfl, hB2⟩
  have h2 := (hc.below hB2 (Nat.le_refl _)).mono hB2.size
  go_wp2_with fail
  refine (rany_any a cap ys _ HM.out h2).mono ?_; rintro e w' ⟨rfl, rfl⟩
  go_wp2_with fail
  refine (Calls.below (works_any _) (by assumption)).mono ?_; rintro e w3 ⟨rfl, hB3⟩
  go_wp2_with fail
  go_ret
  exact ⟨rfl, hB3⟩

theorem duals_eq (zs : List Int) : (zs.map tNot).foldl tOr 0 = tNot (zs.foldl tAnd 1) := by
  have : ∀ (zs : List Int) (t : Int), (zs.map tNot).foldl tOr (tNot t) = tNot (zs.foldl tAnd t) := by
    intro zs
    induction zs with
    | nil => intro t; rfl
    | cons x l ih =>
      intro t
      rw [List.map_cons, List.foldl_cons, List.foldl_cons, ← ih, ← or_eq]
      have hn : ∀ y, tNot (tNot y) = tKnown y := fun y => by rcases tKnown_cases y with ⟨rfl, _⟩ | ⟨rfl, _⟩ | ⟨h0, h1, _⟩ <;> simp [tNot, tKnown, *]
      have ha : ∀ y z, tAnd (tKnown y) (tKnown z) = tAnd y z := fun y z => by
        rcases tKnown_cases y with ⟨rfl, _⟩ | ⟨rfl, _⟩ | ⟨h0, h1, _⟩ <;> rcases tKnown_cases z with ⟨rfl, _⟩ | ⟨rfl, _⟩ | ⟨k0, k1, _⟩ <;> simp [tAnd, tKnown, *]
      rw [hn, hn, ha]
  exact this zs 1
theorem dual_and (a b : Int) : tOr (tNot a) (tNot b) = tNot (tAnd a b) := by
  rcases tKnown_cases a with ⟨rfl, _⟩ | ⟨rfl, _⟩ | ⟨h0, h1, _⟩ <;> rcases tKnown_cases b with ⟨rfl, _⟩ | ⟨rfl, _⟩ | ⟨k0, k1, _⟩ <;> simp [tNot, tAnd, tOr, *]
theorem not_not_and (a b : Int) : tNot (tNot (tAnd a b)) = tAnd a b := by
  rcases tKnown_cases a with ⟨rfl, _⟩ | ⟨rfl, _⟩ | ⟨h0, h1, _⟩ <;> rcases tKnown_cases b with ⟨rfl, _⟩ | ⟨rfl, _⟩ | ⟨k0, k1, _⟩ <;> simp [tNot, tAnd, *]
theorem and_comm' (a b : Int) : tAnd b a = tAnd a b := by unfold tAnd; simp only [or_comm, and_comm]
theorem or_comm' (a b : Int) : tOr b a = tOr a b := by unfold tOr; simp only [or_comm, and_comm]
theorem xor_comm' (a b : Int) : tXor b a = tXor a b := by unfold tXor; simp only [and_comm, eq_comm]

theorem Try.info22 : (Try.prog.info? 22).map (fun i => (i.zero, i.size, i.bytes)) = some (some (.int .i64 0), 1, 8) := by kernel_rfl

theorem duals_walk (x y : Int) (a : Option Addr) (len cap : Nat) (zs : List Int) (w : World) (hreach : len * 8 ≤ 140737488351232) (h : IsRow .i64 w a len cap zs) : Calls Try.prog 7 #[.int .i64 x, .int .i64 y, .slice a len cap] w fun e w' => e = .returned (.bool true) ∧ Below w.heap.size w w' := by
  obtain ⟨ys, hy, rfl, hm, hc⟩ := h.cells; clear hy
  obtain ⟨i0, hi, hz0, hz1, hz2⟩ := info_parts Try.info22
  have hB0 : Below w.heap.size w w := Below.refl _ _
  have e1 := dual_and x y
  have e2 := not_not_and x y
  have e3 := and_comm' x y
  have e4 := or_comm' x y
  have e5 := xor_comm' x y
  clear h
  have HM := Lib.hid hm; clear hm
  go_enter Try.func7, Try.ntmps7
  go_wp2_with (first
    | (go_at_call 8; refine (of_any _ _).mono ?_; rintro e w' ⟨rfl, rfl⟩)
    | (go_at_call 13; refine (rof_any _ _).mono ?_; rintro e w' ⟨rfl, rfl⟩)
    | (go_at_call 14; refine (is_any _ _).mono ?_; rintro e w' ⟨rfl, rfl⟩)
    | (go_at_call 15; refine (not_any _ _).mono ?_; rintro e w' ⟨rfl, rfl⟩)
    | (go_at_call 16; refine (rnot_any _ _).mono ?_; rintro e w' ⟨rfl, rfl⟩)
    | (go_at_call 17; refine (rand_any _ _ _).mono ?_; rintro e w' ⟨rfl, rfl⟩)
    | (go_at_call 18; refine (ror_any _ _ _).mono ?_; rintro e w' ⟨rfl, rfl⟩)
    | (go_at_call 19; refine (rxor_any _ _ _).mono ?_; rintro e w' ⟨rfl, rfl⟩)
    | (go_at_call 9; refine (Calls.below (and_any _ _ _) (by assumption)).mono ?_; rintro e w' ⟨rfl, hB⟩)
    | (go_at_call 10; refine (Calls.below (or_any _ _ _) (by assumption)).mono ?_; rintro e w' ⟨rfl, hB⟩)
    | (go_at_call 11; refine (Calls.below (xor_any _ _ _) (by assumption)).mono ?_; rintro e w' ⟨rfl, hB⟩)
    | (go_at_call 12; refine (Calls.below (works_any _) (by assumption)).mono ?_; rintro e w' ⟨rfl, hB⟩))
  clear e1 e2 e3 e4 e5
  go_loopw [7, 8] (fun v i wr => ∃ k : Nat, k ≤ ys.length ∧ i = .int .i64 k ∧ wr.ownsRow w.heap.size 22 1 v k ((ys.take k).map fun q => .int .i64 (tNot q)) ∧ Below w.heap.size w wr) (fun _ i _ => ys.length - (intOf i).toNat)
  case atStart => exact ⟨0, Nat.zero_le _, rfl, World.ownsRow_nil _ _ _ _, by assumption⟩
  case round =>
    obtain ⟨k, hk, rfl, hown, hb⟩ := hrel
    have hsz := hb.size
    by_cases hlt : k < ys.length
    · obtain ⟨q, hq⟩ : ∃ q, ys[k]? = some q := ⟨_, List.getElem?_eq_getElem hlt⟩
      obtain ⟨b, off, ha, hbs, hcell⟩ : ∃ b off, a = some ⟨b, off, none⟩ ∧ b < w.heap.size ∧ wr.cell? ⟨b, off + k, none⟩ = some (.int .i64 q) := by
        rcases hc with hn | ⟨b, off, ha, hbs, hc⟩
        · simp at hn; subst hn; simp at hlt
        · exact ⟨b, off, ha, hbs, by rw [hb.cell (by exact hbs)]; exact hc k _ (by simp [hq])⟩
      subst ha
      have HQ := Lib.hid (take_succ_some hq)
      clear hq hc
      go_wp2_with (first | (go_at_call 15; refine (not_any _ _).mono ?_; rintro e w' ⟨rfl, rfl⟩) | (at_builtin; refine wpList_append_own _ rfl _ _ 30 rfl w.heap.size 22 i0 (.int .i64 0) 1 8 Try.underlying30 hi hz0 hz1 hz2 rfl (by decide) _ _ _ rfl (hown.alloc _) ⟨wr.heap.size, 0, none⟩ 1 1 [.int .i64 (tNot q)] rfl rfl (cell_one_new _ _ _) ?c2 ?c3 ?c4 ?c5 ?_))
      case c2 => intro u hu; simp at hu; subst hu; rfl
      case c3 => unfold maxLen; omega
      case c4 => omega
      case c5 => simp; omega
      intro v' w1 hown' hgrow _
      have hb1 : Below w.heap.size w w1 := (hb.alloc hsz _).grown hgrow (by simp; omega) (fun j hj => (hown.lt j hj).1)
      clear hgrow hown
      go_wp2_with fail
      go_roundw
      case rel => exact ⟨k + 1, by omega, by go_num, by rw [HQ.out]; simpa using hown', hb1⟩
      case measure => simp [intOf]; omega
    · have hk2 : k = ys.length := by omega
      have HK : Hid (ys.take k = ys) := by rw [hk2]; exact Lib.hid List.take_length
      have HD := Lib.hid (duals_eq ys)
      obtain ⟨a2, cap2, rfl, hc2⟩ := Cells.of_own hown
      have HC2 : Hid (Cells wr.heap.size wr a2 ((ys.map tNot).map (.int .i64)) ∧ k = (ys.map tNot).length) := by
        rw [HK.out] at hc2; refine Lib.hid ⟨?_, by simp [hk2]⟩; rw [List.map_map]; exact hc2
      clear hown hc2
      have h1 := (hc.below hb (Nat.le_refl _)).mono hb.size
      have H1 := Lib.hid h1
      clear h1
      go_wp2_with fail
      refine (all_any a cap ys _ HM.out H1.out).mono ?_; rintro e w1 ⟨rfl, hk1⟩
      have hB1 := below_step hb rfl hk1
      go_wp2_with fail
      refine (not_any _ _).mono ?_; rintro e w' ⟨rfl, rfl⟩
      go_wp2_with fail
      have CA := any_any a2 cap2 (ys.map tNot) w1 (by rw [List.length_map]; exact HM.out) (Cells.mono (HC2.out.1.below hk1 (Nat.le_refl _)) hk1.size)
      rw [List.length_map, HD.out] at CA
      refine (Calls.below CA (by assumption)).mono ?_; rintro e w2 ⟨rfl, hB2⟩
      clear CA
      go_wp2_with fail
      refine (Calls.below (works_any _) (by assumption)).mono ?_; rintro e w3 ⟨rfl, hB3⟩
      go_wp2_with fail
      go_ret
      exact ⟨rfl, hB3⟩
end Go.Proofs.Ytoiponaaogdioaa

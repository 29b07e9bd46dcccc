/- Layer 5: the contracts of the reference's Unquote, of Show at null, and of works. Conditions: the text is no longer than 2^40. -/
import Derived.Test.YtangldmjgidgcaaS16
import Derived.Test.YtangldmjgidgcaaS18
import Derived.Test.YtangldmjgidgcaaS19
namespace Go.Proofs.Ytangldmjgidgcaa
open Go.RowKit Go.Shelf
set_option linter.unusedSimpArgs false
set_option linter.unusedVariables false

set_option maxRecDepth 100000 in
theorem runquote_any (s : ByteArray) (w : World) (hs : s.size ≤ 1099511627776) :
    Calls Try.prog 9 #[.string s] w fun e w' => e = .returned (unqV (unqS s.data.toList)) ∧ Below w.heap.size w w' := by
  have HQ : Calls Try.prog 24 #[.string s, .int .i64 0] w fun e w' => e = .returned (qdV s.size (qdS s.data.toList 0)) ∧ Below w.heap.size w w' := quoted_any s 0 w hs (by omega)
  have HQ := Lib.hid HQ
  rw [← unq_same]
  have hpos : ∀ p, qdS s.data.toList 0 = some p → 0 < s.size := fun p h => by
    unfold qdS at h
    by_cases h0 : 0 < s.data.toList.length ∧ nb s.data.toList 0 = 39
    · simpa using h0.1
    · rw [if_neg h0] at h; cases h
  cases hq : qdS s.data.toList 0 with
  | none =>
    rw [hq] at HQ
    clear hpos hq
    go_enter Try.func9, Try.ntmps9
    go_wp2_with fail
    refine HQ.out.mono ?_
    rintro e w1 ⟨rfl, hb1⟩
    unfold qdV
    dsimp only
    go_wp2_with fail
    go_ret2
    exact ⟨rfl, hb1⟩
  | some p =>
    obtain ⟨t, r⟩ := p
    have h0 := hpos _ hq
    rw [hq] at HQ
    clear hpos hq
    cases r with
    | nil =>
      have hn : (((s.size - ([] : List UInt8).length : Nat) : Int) != (s.size : Int)) = false := by simp
      go_enter Try.func9, Try.ntmps9
      go_wp2_with fail
      refine HQ.out.mono ?_
      rintro e w1 ⟨rfl, hb1⟩
      unfold qdV
      dsimp only
      go_wp2_with fail
      go_ret2
      exact ⟨rfl, hb1⟩
    | cons c r =>
      obtain ⟨x, hx⟩ : ∃ x, s.size - (c :: r).length = x := ⟨_, rfl⟩
      have hn : ((x : Int) != (s.size : Int)) = true := by simp at hx ⊢; omega
      unfold qdV at HQ
      dsimp only at HQ
      rw [hx] at HQ
      clear hx
      go_enter Try.func9, Try.ntmps9
      go_wp2_with fail
      refine HQ.out.mono ?_
      rintro e w1 ⟨rfl, hb1⟩
      go_wp2_with fail
      go_ret2
      exact ⟨rfl, hb1⟩

/-- The zero value. -/
def nullV : Value := .agg #[.int .i64 0, .bool false, .int .i64 0, .string ⟨#[]⟩, .slice none 0 0, .slice none 0 0]
set_option maxRecDepth 100000 in
theorem show_null (w : World) :
    Calls Try.prog 18 #[.agg #[.int .i64 0, .bool false, .int .i64 0, .string ⟨#[]⟩, .slice none 0 0, .slice none 0 0]] w fun e w' => e = .returned (.string ⟨#[110, 117, 108, 108]⟩) ∧ Below w.heap.size w w' := by
  go_enter Try.func18, Try.ntmps18
  go_wp2_with fail
  go_ret
  exact ⟨rfl, (Below.refl _ _).alloc (Nat.le_refl _) _⟩

theorem quote_ex : quoteL [97, 39, 10] = [97, 92, 39, 92, 110] := by
  rw [quoteL_step (by decide), show pieceQ [97, 39, 10] = [97] from by decide, show stepQ [97, 39, 10] = 1 from by decide]
  rw [show ([97, 39, 10] : List UInt8).drop 1 = [39, 10] from rfl]
  rw [quoteL_step (by decide), show pieceQ [39, 10] = [92, 39] from by decide, show stepQ [39, 10] = 1 from by decide]
  rw [show ([39, 10] : List UInt8).drop 1 = [10] from rfl]
  rw [quoteL_step (by decide), show pieceQ [10] = [92, 110] from by decide, show stepQ [10] = 1 from by decide]
  rw [show ([10] : List UInt8).drop 1 = [] from rfl, quoteL_nil rfl]
  rfl
theorem unq_ex : unqS [39, 97, 92, 120, 48, 48, 39] = some [97, 0] := by decide +kernel
theorem name_ex1 : nameB [97, 95, 49] = true := by
  apply decide_eq_true
  refine ⟨by decide, by decide, by decide, fun k hk => ?_⟩
  have : k = 0 ∨ k = 1 ∨ k = 2 := by simp at hk; omega
  rcases this with rfl | rfl | rfl <;> decide
theorem name_ex2 : nameB [49, 97] = false := by
  apply decide_eq_false
  rintro ⟨_, _, h, _⟩
  revert h; decide

set_option maxRecDepth 100000 in
set_option maxHeartbeats 1000000 in
theorem works_any (w : World) : Calls Try.prog 16 #[] w fun e w' => e = .returned (.bool true) ∧ Below w.heap.size w w' := by
  have H1 : Hid (∀ w, Calls Try.prog 8 #[.string ⟨#[39, 97, 92, 120, 48, 48, 39]⟩] w fun e w' => e = .returned (.tuple #[.string ⟨#[97, 0]⟩, .int .i64 0]) ∧ Below w.heap.size w w') := Lib.hid (fun w => by
    have := unquote_any ⟨#[39, 97, 92, 120, 48, 48, 39]⟩ w (by decide)
    rw [show (ByteArray.mk #[39, 97, 92, 120, 48, 48, 39]).data.toList = [39, 97, 92, 120, 48, 48, 39] from rfl, unq_ex] at this
    exact this)
  have H2 : Hid (∀ w, Calls Try.prog 10 #[.string ⟨#[97, 39, 10]⟩] w fun e w' => e = .returned (.string ⟨#[39, 97, 92, 39, 92, 110, 39]⟩) ∧ Below w.heap.size w w') := Lib.hid (fun w => by
    have := quote_any ⟨#[97, 39, 10]⟩ w (by decide)
    rw [show (ByteArray.mk #[97, 39, 10]).data.toList = [97, 39, 10] from rfl, quote_ex] at this
    exact this)
  have H3 : Hid (∀ w, Calls Try.prog 12 #[.string ⟨#[97, 95, 49]⟩] w fun e w' => e = .returned (.bool true) ∧ Below w.heap.size w w') := Lib.hid (fun w => by
    have := name_any ⟨#[97, 95, 49]⟩ w (by decide)
    rw [show (ByteArray.mk #[97, 95, 49]).data.toList = [97, 95, 49] from rfl, name_ex1] at this
    exact this)
  have H4 : Hid (∀ w, Calls Try.prog 12 #[.string ⟨#[49, 97]⟩] w fun e w' => e = .returned (.bool false) ∧ Below w.heap.size w w') := Lib.hid (fun w => by
    have := name_any ⟨#[49, 97]⟩ w (by decide)
    rw [show (ByteArray.mk #[49, 97]).data.toList = [49, 97] from rfl, name_ex2] at this
    exact this)
  go_enter Try.func16, Try.ntmps16
  go_wp2_with fail
  refine (H1.out _).mono ?_
  rintro e w1 ⟨rfl, b1⟩
  go_wp2_with fail
  refine (H2.out _).mono ?_
  rintro e w2 ⟨rfl, b2⟩
  go_wp2_with fail
  refine (show_null _).mono ?_
  rintro e w3 ⟨rfl, b3⟩
  go_wp2_with fail
  refine (H3.out _).mono ?_
  rintro e w4 ⟨rfl, b4⟩
  go_wp2_with fail
  refine (H4.out _).mono ?_
  rintro e w5 ⟨rfl, b5⟩
  go_wp2_with fail
  go_ret
  exact ⟨rfl, below_step (below_step (below_step (below_step b1 rfl b2) rfl b3) rfl b4) rfl b5⟩
end Go.Proofs.Ytangldmjgidgcaa

/- Layer 12: Parse at any text, and the law's example. Conditions: the variable of internal/bytealg is an int. -/
import Derived.Test.YteljlahcdipilaaGreatF42
import Derived.Test.YteljlahcdipilaaGreatFQ81
import Derived.Test.YteljlahcdipilaaGreatF41
import Derived.Test.YteljlahcdipilaaGreatF46
import Derived.Test.YteljlahcdipilaaGreatF23
import Derived.Test.YteljlahcdipilaaGreatF12
namespace Go.Proofs.YteljlahcdipilaaGreat
open Go.RowKit Go.Shelf
set_option linter.unusedSimpArgs false
set_option linter.unusedVariables false
set_option maxRecDepth 100000

theorem scan_all (s : ByteArray) (w : World) (hs : s.size ≤ 1099511627776) (hM : ML w) : ScanAll s w := by
 unfold ScanAll
 have H : ∀ w0, Below w.heap.size w w0 → Calls Tryz.prog 7 #[.string s] w0 (ScanP (scanL s.data.toList) w0) := fun w0 hb => by
  obtain ⟨h1, m, h2⟩ := hM.below hb
  exact scan_any s m w0 hs h2 h1
 cases hL : scanL s.data.toList with
 | bad p x =>
  rw [hL] at H
  exact ⟨(scanL_bad hL).2, fun w0 hb => (H w0 hb).mono fun e w' h => ⟨h.1, h.2⟩⟩
 | ok L =>
  rw [hL] at H
  obtain ⟨h1, h2, h3, h4, _⟩ := scan_good hL
  refine ⟨fun w0 hb => (H w0 hb).mono fun e w' h => ?_, h1, h2, h3, h4⟩
  obtain ⟨⟨v, he, ho⟩, hb'⟩ := h
  obtain ⟨a, c, rfl⟩ := own_form ho
  exact ⟨a, c, he, ho, hb'⟩
theorem right_is {s : ByteArray} {L : List (Tok × Nat)} {v : V} {r : List Tok} {w : World} (hM : ML w) (hL : scanL s.data.toList = .ok L) (h : Run (.stmt []) (rem L 0) (.ok v r)) : RightIs v (rightB ⟨v.clauses⟩) w := by
 intro cs w0 hb hI
 obtain ⟨f, hf⟩ := h
 have h1 := stmt_wt hf
 have h2 := (scan_good hL).2.2.2.2
 exact pright_any ⟨v.clauses⟩ (fun c _ => groups_any c) cs w0.heap.size w0 hI (Nat.le_refl _) (hM.below hb) (Nat.le_trans h1 h2)
theorem parse_is (s : ByteArray) (w : World) (hs : s.size ≤ 1099511627776) (hM : ML w) :
  Calls Tryz.prog 11 #[.string s] w fun e w' => Below w.heap.size w w' ∧ ∃ a n c p x, e = .returned (.tuple #[.agg #[.slice a n c], .int .i64 p, .int .i64 x]) ∧ PAns s.data.toList p x :=
 parse_pans s w (scan_all s w hs hM) fun L v r h1 h2 => ⟨_, right_is hM h1 h2⟩
theorem exA_right : rightB ⟨exVA.clauses⟩ = true := by kernel_rfl
theorem ex_ok {s : ByteArray} {L : List (Tok × Nat)} {v : V} {r : List Tok} {f : Nat} (w0 : World) (hs : s.size ≤ 1099511627776) (hM : ML w0) (hsc : scanL s.data.toList = .ok L) (hr : run (f + 1) (.stmt []) (rem L 0) = some (.ok v r)) (hb : rightB ⟨v.clauses⟩ = true) :
  Calls Tryz.prog 11 #[.string s] w0 fun e w' => Below w0.heap.size w0 w' ∧ ∃ S cs, e = .returned (.tuple #[.agg (List.toArray cs), .int .i64 0, .int .i64 0]) ∧ HG (fun u => RSm u cs ⟨v.clauses⟩) S w' := by
 have hA := scan_all s w0 hs hM
 unfold ScanAll at hA
 rw [hsc] at hA
 obtain ⟨h1, h2, h3, h4, h5⟩ := hA
 have hR := right_is hM hsc ⟨f + 1, hr⟩
 rw [hb] at hR
 refine (parse_ok s L w0 h1 h2 h3 h4 h5 v r true hR hr).mono fun e w' ⟨g1, g2⟩ => ⟨g1, ?_⟩
 rw [if_pos rfl] at g2
 obtain ⟨S, cs, he, -, hX⟩ := g2
 exact ⟨S, cs, he, hX⟩
theorem ex_bad {s : ByteArray} {L : List (Tok × Nat)} {r : List Tok} {f : Nat} (w0 : World) (hs : s.size ≤ 1099511627776) (hM : ML w0) (hsc : scanL s.data.toList = .ok L) (hr : run (f + 1) (.stmt []) (rem L 0) = some (.bad r)) :
  Calls Tryz.prog 11 #[.string s] w0 fun e w' => ∃ k y, L[k]? = some y ∧ r = rem L k ∧ e = .returned (.tuple #[.agg #[.slice none 0 0], .int .i64 y.2, .int .i64 1]) ∧ Below w0.heap.size w0 w' := by
 have hA := scan_all s w0 hs hM
 unfold ScanAll at hA
 rw [hsc] at hA
 obtain ⟨h1, h2, h3, h4, h5⟩ := hA
 exact parse_bad s L w0 h1 h2 h3 h4 h5 r hr
theorem exA_list : (⟨#[109, 97, 116, 99, 104, 32, 40, 110, 58, 65, 41, 45, 45, 62, 40, 109, 41, 32, 114, 101, 116, 117, 114, 110, 32, 110, 46, 107, 32, 43, 32, 49, 32, 97, 115, 32, 120]⟩ : ByteArray).data.toList = exA := rfl
theorem exB_list : (⟨#[77, 65, 84, 67, 72, 32, 40, 110, 32, 82, 69, 84, 85, 82, 78, 32, 110]⟩ : ByteArray).data.toList = exB := rfl
theorem ex_a (w : World) (hM : ML w) : ExA w := fun w0 hb => ex_ok (f := 59) w0 (by decide) (hM.below hb) (by rw [exA_list]; exact exA_scan) exA_run exA_right
theorem ex_b (w : World) (hM : ML w) : ExB w := by
 intro w0 hb
 refine (ex_bad (f := 59) w0 (by decide) (hM.below hb) (by rw [exB_list]; exact exB_scan) exB_run).mono fun e w' ⟨k, y, g1, g2, g3, g4⟩ => ⟨g4, ?_⟩
 have hk : exLB.length - k = 3 := by
  have h := congrArg List.length g2
  rw [exB_rest] at h
  unfold rem at h
  rw [List.length_map, List.length_drop] at h
  exact h.symm
 rw [exB_len] at hk
 obtain rfl : k = 3 := by omega
 have hy : y.2 = 9 := by
  have h := exB_at
  rw [g1] at h
  exact Option.some.inj h
 rw [hy] at g3
 exact g3
theorem pworks_is (w : World) (hM : ML w) : Calls Tryz.prog 8 #[] w fun e w' => e = .returned (.bool true) ∧ Below w.heap.size w w' := pworks_any w (ex_a w hM) (ex_b w hM)
end Go.Proofs.YteljlahcdipilaaGreat

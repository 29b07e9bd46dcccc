/- The reference's book: Beside and Ahead. Conditions: sizes are small. -/
import Derived.Test.YtaonfacbmolklaaRf1
namespace Go.Proofs.Ytaonfacbmolklaa
open Go.RowKit
set_option linter.unusedSimpArgs false
set_option linter.unusedVariables false

set_option maxRecDepth 100000 in
set_option maxHeartbeats 4000000 in
theorem rbeside_any (w : World) (B P : Nat) (last : Int) (S : Nat → Prop) (lv : Value) (zs : List Z) (i k : Nat) (x z : Z) (h : IsRef w B P last S lv zs) (hi : zs[i]? = some x) (hk : zs[k]? = some z) (hn : zs.length ≤ 1000000) :
    Calls Try.prog 35 #[.pointer (some ⟨P, 0, none⟩), .int .i64 i, .int .i64 k] w fun e w' => e = .returned (.bool (besideB (zs.map fun z => z.1) i k)) ∧ Below w.heap.size w w' := by
  have hB : besideB (zs.map fun z => z.1) i k = decide (i ≠ k ∧ (x.1.end_ = 0 ∨ z.1.at_ < x.1.end_)) := by unfold besideB; rw [List.getElem?_map, List.getElem?_map, hi, hk]; rfl
  rw [hB]
  obtain ⟨g, c, hv, hg, hc⟩ := h.cell hi
  obtain ⟨g', c', hv', hg', hc'⟩ := h.cell hk
  rw [hv] at hv'
  injection hv' with e1 _ _
  injection e1 with e1
  injection e1 with e1
  subst e1
  have c0 := h.blk.cell (i := 0) rfl
  rw [hv] at c0
  have hin := (List.getElem?_eq_some_iff.1 hi).1
  have hkn := (List.getElem?_eq_some_iff.1 hk).1
  have x2 := hc 2 _ rfl
  have z1 := hc' 1 _ rfl
  generalize zs.length = n at *
  generalize x.1.end_ = xe at *
  generalize z.1.at_ = za at *
  clear h hi hk hB hv hg hc hg' hc'
  have hin' : (i : Int) < n := by omega
  have hkn' : (k : Int) < n := by omega
  have hi0 : (0 : Int) ≤ (i : Int) := by omega
  have hk0 : (0 : Int) ≤ (k : Int) := by omega
  by_cases hik : i = k
  · rw [decide_eq_false (fun h => h.1 hik)]
    subst hik
    have hq : ((i : Int) != (i : Int)) = false := by simp
    go_enter Try.func35, Try.ntmps35
    go_wp2_with fail
    go_quiet (fail)
    go_wp2_with fail
    go_ret
    exact ⟨by rfl, below_drewN (Below.refl _ _) _⟩
  · have hq : ((i : Int) != (k : Int)) = true := by simp; omega
    by_cases h0 : xe = 0
    · rw [decide_eq_true ⟨hik, .inl h0⟩]
      subst h0
      clear hik
      go_enter Try.func35, Try.ntmps35
      go_wp2_with fail
      go_quiet (fail)
      go_wp2_with fail
      go_ret
      exact ⟨by rfl, below_drewN (Below.refl _ _) _⟩
    · have h0' : (xe == 0) = false := by simpa using h0
      by_cases h1 : za < xe
      · rw [decide_eq_true ⟨hik, .inr h1⟩]
        have h2 : decide (za < xe) = true := decide_eq_true h1
        clear hik h0
        go_enter Try.func35, Try.ntmps35
        go_wp2_with fail
        go_quiet (fail)
        go_wp2_with fail
        go_ret
        exact ⟨by rfl, below_drewN (Below.refl _ _) _⟩
      · rw [decide_eq_false (fun h => by rcases h.2 with h | h; exact h0 h; exact h1 h)]
        have h2 : decide (za < xe) = false := decide_eq_false h1
        clear hik h0
        go_enter Try.func35, Try.ntmps35
        go_wp2_with fail
        go_quiet (fail)
        go_wp2_with fail
        go_ret
        exact ⟨by rfl, below_drewN (Below.refl _ _) _⟩
set_option maxRecDepth 100000 in
set_option maxHeartbeats 4000000 in
theorem rahead_any (w : World) (B P : Nat) (last : Int) (S : Nat → Prop) (lv : Value) (zs : List Z) (i k : Nat) (x z : Z) (h : IsRef w B P last S lv zs) (hi : zs[i]? = some x) (hk : zs[k]? = some z) (hn : zs.length ≤ 1000000) (hl : x.1.reads.length ≤ 1099511627776) (hl2 : z.1.touches.length ≤ 1099511627776) :
    Calls Try.prog 36 #[.pointer (some ⟨P, 0, none⟩), .int .i64 i, .int .i64 k] w fun e w' => e = .returned (.bool (aheadB (zs.map fun z => z.1) i k)) ∧ Below w.heap.size w w' := by
  have hB : aheadB (zs.map fun z => z.1) i k = meetB x.1.reads z.1.touches := by unfold aheadB; rw [List.getElem?_map, List.getElem?_map, hi, hk]; rfl
  rw [hB]
  obtain ⟨g, c, hv, hg, hc⟩ := h.cell hi
  obtain ⟨g', c', hv', hg', hc'⟩ := h.cell hk
  rw [hv] at hv'
  injection hv' with e1 _ _
  injection e1 with e1
  injection e1 with e1
  subst e1
  obtain ⟨ra, rc, hv1, hr1⟩ := (h.rows x (List.mem_of_getElem? hi)).1.row
  obtain ⟨ta, tc, hv2, hr2⟩ := (h.rows z (List.mem_of_getElem? hk)).2.row
  have hPl := h.blk.lt
  have c0 : ∀ u : Ext w.heap.size w, u.w.cell? ⟨P, 0, none⟩ = some (.slice (some ⟨g, 0, none⟩) zs.length c) := fun u => u.cell hPl (by rw [← hv]; exact h.blk.cell rfl)
  have x3 : ∀ u : Ext w.heap.size w, u.w.cell? ⟨g, i * 6 + 3, none⟩ = some (.slice ra x.1.reads.length rc) := fun u => u.cell hg (by rw [← hv1]; exact hc 3 _ rfl)
  have z4 : ∀ u : Ext w.heap.size w, u.w.cell? ⟨g, k * 6 + 4, none⟩ = some (.slice ta z.1.touches.length tc) := fun u => u.cell hg (by rw [← hv2]; exact hc' 4 _ rfl)
  have HM := Lib.hid (fun u : Ext w.heap.size w => ext_still u (rmeet_any x.1.reads z.1.touches ra ta rc tc w.heap.size u.w (hr1.below u.below (Nat.le_refl _)) (hr2.below u.below (Nat.le_refl _)) hl hl2))
  have hin := (List.getElem?_eq_some_iff.1 hi).1
  have hkn := (List.getElem?_eq_some_iff.1 hk).1
  obtain ⟨u0, hu0⟩ := Ext.start w.heap.size w
  have HU := Lib.hid hu0
  generalize zs.length = n at *
  generalize meetB x.1.reads z.1.touches = X at *
  generalize x.1.reads.length = en at *
  generalize z.1.touches.length = tn at *
  clear h hi hk hB hv hg hc hg' hc' hPl hr1 hr2 hv1 hv2 hu0
  have hin' : (i : Int) < n := by omega
  have hkn' : (k : Int) < n := by omega
  have hi0 : (0 : Int) ≤ (i : Int) := by omega
  have hk0 : (0 : Int) ≤ (k : Int) := by omega
  go_enter Try.func36, Try.ntmps36
  rw [HU.out]
  go_wp2_with fail
  refine wp_region_at u0 (by kernel_rfl) (by kernel_rfl) ?_
  repeat (go_big_quiet_step ((with_reducible exact HM.out _)))
  refine wpQuiet_nil ?_
  rintro w2 ⟨u, rfl⟩
  go_wp2_with fail
  go_ret
  rw [← HU.out]
  exact ⟨by rfl, u.below⟩
end Go.Proofs.Ytaonfacbmolklaa

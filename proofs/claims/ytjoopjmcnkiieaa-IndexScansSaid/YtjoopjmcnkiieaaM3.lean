/- The texts Mend, Fork, Tree4, Put of this seat, one behind the other. Conditions: each says its own. -/
import Derived.Test.YtjoopjmcnkiieaaM2

/- mend: the walk. Conditions: the node has two kids at least. -/
namespace Go.Proofs.Ytjoopjmcnkiieaa
open Go.RowKit Go.Lib
set_option linter.unusedSimpArgs false
set_option linter.unusedVariables false

set_option maxRecDepth 100000 in
set_option maxHeartbeats 16000000 in
theorem mend_enough {w : World} {p tb i j m c3 g3 pk pl pr L lk ll lr ck cl cr : Nat} {ak al ar : Option Addr} {Q : World → Prop} (dn : w.cell? ⟨p, 2, none⟩ = some (.slice (some ⟨g3, 0, none⟩) m c3)) (hi : i < m) (hm : m ≤ 1000)
    (ki : w.cell? ⟨g3, i, none⟩ = some (.pointer (some ⟨pk, 0, none⟩))) (dk : w.cell? ⟨pk, 0, none⟩ = some (.slice ak lk ck))
    (hl : ∀ W, Same4 w W → Calls Try.prog 48 #[.pointer (some ⟨tb, 0, none⟩), .pointer (some ⟨pk, 0, none⟩)] W fun e w' => e = .returned (.int .i64 L) ∧ W = w')
    (hk : L ≤ lk)
    (H : ∀ W, Same4 w W → Q W) :
    Calls Try.prog 54 #[.pointer (some ⟨tb, 0, none⟩), .pointer (some ⟨p, 0, none⟩), .int .i64 i] w (fun e w' => e = .returned (.tuple #[]) ∧ Q w') := by
  have HL := Lib.hid hl
  have HH := Lib.hid H
  have hi' : (i : Int) < m := by omega
  have hi0 : (0 : Int) ≤ i := by omega
  have hwp : IntKind.i64.wrap ((i : Int) + 1) = (i : Int) + 1 := IntWalk.i64_in _ (by omega)
  have hnn : ((i : Int) + 1).toNat = i + 1 := by omega
  have hi1 : (0 : Int) ≤ (i : Int) + 1 := by omega
  have hk' : (lk : Int) ≥ L := by omega
  have hk2 : (L : Int) ≤ lk := by omega
  clear hl H
  go_enter Try.func54, Try.ntmps54
  go_wp2_with fail
  refine wp_region_noPanic ?_
  refine wp_region_J (S := fun u : World => u.cell? ⟨pk, 0, none⟩ = some (.slice ak lk ck)) (fun _ => false) (by kernel_rfl) ?_
  have hHeld : (fun u : World => u.cell? ⟨pk, 0, none⟩ = some (.slice ak lk ck)) w.drew := dk
  refine wpAnyJ_take0 (i := 0) (v := ?_) rfl (by kernel_rfl) (by kernel_rfl) (by kernel_rfl) (fun _ _ _ h => h) (Or.inl ⟨by rfl, ?_⟩) ?_
  rotate_left
  focus ((intro w hSw; clear hSw; go_simp); try with_reducible rfl)
  (try simp only [Act.put, List.getElem_toArray, List.getElem_cons_zero, List.getElem_cons_succ, List.setIfInBounds_toArray, List.set_cons_zero, List.set_cons_succ])
  refine wpAnyJ_take0 (i := 1) (v := ?_) rfl (by kernel_rfl) (by kernel_rfl) (by kernel_rfl) (fun _ _ _ h => h) (Or.inl ⟨by rfl, ?_⟩) ?_
  rotate_left
  focus ((intro w hSw; clear hSw; go_simp); try with_reducible rfl)
  (try simp only [Act.put, List.getElem_toArray, List.getElem_cons_zero, List.getElem_cons_succ, List.setIfInBounds_toArray, List.set_cons_zero, List.set_cons_succ])
  refine wpAnyJ_take0 (i := 2) (v := ?_) rfl (by kernel_rfl) (by kernel_rfl) (by kernel_rfl) (fun _ _ _ h => h) (Or.inl ⟨by rfl, ?_⟩) ?_
  rotate_left
  focus ((intro w hSw; clear hSw; go_simp); try with_reducible rfl)
  (try simp only [Act.put, List.getElem_toArray, List.getElem_cons_zero, List.getElem_cons_succ, List.setIfInBounds_toArray, List.set_cons_zero, List.set_cons_succ])
  refine wpAnyJ_take (i := 3) (v := ?_) rfl (by kernel_rfl) (by kernel_rfl) (by kernel_rfl) (by kernel_rfl) (fun _ _ _ h => h) (Or.inl ⟨by rfl, ?_⟩) (by assumption) ?_
  rotate_left
  focus ((intro w hSw; (try dsimp only at hSw); go_simp); try with_reducible rfl)
  (try simp only [Act.put, List.getElem_toArray, List.getElem_cons_zero, List.getElem_cons_succ, List.setIfInBounds_toArray, List.set_cons_zero, List.set_cons_succ])
  refine wpAnyJ_take0 (i := 4) (v := ?_) rfl (by kernel_rfl) (by kernel_rfl) (by kernel_rfl) (fun _ _ _ h => h) (Or.inl ⟨by rfl, ?_⟩) ?_
  rotate_left
  focus ((intro w hSw; clear hSw; go_simp); try with_reducible rfl)
  (try simp only [Act.put, List.getElem_toArray, List.getElem_cons_zero, List.getElem_cons_succ, List.setIfInBounds_toArray, List.set_cons_zero, List.set_cons_succ])
  refine wpAnyJ_take0 (i := 5) (v := ?_) rfl (by kernel_rfl) (by kernel_rfl) (by kernel_rfl) (fun _ _ _ h => h) (Or.inl ⟨by rfl, ?_⟩) ?_
  rotate_left
  focus ((intro w hSw; clear hSw; go_simp); try with_reducible rfl)
  (try simp only [Act.put, List.getElem_toArray, List.getElem_cons_zero, List.getElem_cons_succ, List.setIfInBounds_toArray, List.set_cons_zero, List.set_cons_succ])
  refine wpAnyJ_take0 (i := 6) (v := ?_) rfl (by kernel_rfl) (by kernel_rfl) (by kernel_rfl) (fun _ _ _ h => h) (Or.inl ⟨by rfl, ?_⟩) ?_
  rotate_left
  focus ((intro w hSw; clear hSw; go_simp); try with_reducible rfl)
  (try simp only [Act.put, List.getElem_toArray, List.getElem_cons_zero, List.getElem_cons_succ, List.setIfInBounds_toArray, List.set_cons_zero, List.set_cons_succ])
  refine wpAnyJ_ready (rs := [7]) (by kernel_rfl) (by simp) ?_
  refine AllReadyJ.cons rfl (fun KK hKK => ?_) AllReadyJ.nil
  go_simp
  go_at_call 48
  refine (HL.out w.drew ⟨rfl, rfl, rfl, rfl⟩).mono ?_
  rintro e u1 ⟨rfl, rfl⟩
  refine hKK.out _ _ (fun _ h => h) ?_
  clear hKK KK
  (try simp only [Act.put, List.getElem_toArray, List.getElem_cons_zero, List.getElem_cons_succ, List.setIfInBounds_toArray, List.set_cons_zero, List.set_cons_succ])
  refine wpAnyJ_take0 (i := 8) (v := ?_) rfl (by kernel_rfl) (by kernel_rfl) (by kernel_rfl) (fun _ _ _ h => h) (Or.inl ⟨by rfl, ?_⟩) ?_
  rotate_left
  focus ((intro w hSw; clear hSw; go_simp); try with_reducible rfl)
  (try simp only [Act.put, List.getElem_toArray, List.getElem_cons_zero, List.getElem_cons_succ, List.setIfInBounds_toArray, List.set_cons_zero, List.set_cons_succ])
  refine wpAnyJ_done (by kernel_rfl) ?_ _
  refine NoPanic.normal ?_
  go_wp2_with fail
  exact ⟨rfl, _, results_none rfl _ _ _, rfl, HH.out w.drew ⟨rfl, rfl, rfl, rfl⟩⟩
set_option maxRecDepth 100000 in
set_option maxHeartbeats 16000000 in
theorem mend_left {w : World} {p tb i j m c3 g3 pk pl pr L lk ll lr ck cl cr : Nat} {ak al ar : Option Addr} {Q : World → Prop} (dn : w.cell? ⟨p, 2, none⟩ = some (.slice (some ⟨g3, 0, none⟩) m c3)) (hi : i < m) (hm : m ≤ 1000)
    (ki : w.cell? ⟨g3, i, none⟩ = some (.pointer (some ⟨pk, 0, none⟩))) (dk : w.cell? ⟨pk, 0, none⟩ = some (.slice ak lk ck))
    (hl : ∀ W, Same4 w W → Calls Try.prog 48 #[.pointer (some ⟨tb, 0, none⟩), .pointer (some ⟨pk, 0, none⟩)] W fun e w' => e = .returned (.int .i64 L) ∧ W = w')
    (hk : lk < L) (hij : i = j + 1) (kl : w.cell? ⟨g3, j, none⟩ = some (.pointer (some ⟨pl, 0, none⟩))) (dl : w.cell? ⟨pl, 0, none⟩ = some (.slice al ll cl)) (hg : L < ll)
    (H : ∀ W, Same4 w W → Calls Try.prog 62 #[.pointer (some ⟨p, 0, none⟩), .int .i64 j, .int .i64 i] W fun e w' => e = .returned (.tuple #[]) ∧ Q w') :
    Calls Try.prog 54 #[.pointer (some ⟨tb, 0, none⟩), .pointer (some ⟨p, 0, none⟩), .int .i64 i] w (fun e w' => e = .returned (.tuple #[]) ∧ Q w') := by
  have HL := Lib.hid hl
  have HH := Lib.hid H
  have hi' : (i : Int) < m := by omega
  have hi0 : (0 : Int) ≤ i := by omega
  have hwp : IntKind.i64.wrap ((i : Int) + 1) = (i : Int) + 1 := IntWalk.i64_in _ (by omega)
  have hnn : ((i : Int) + 1).toNat = i + 1 := by omega
  have hi1 : (0 : Int) ≤ (i : Int) + 1 := by omega
  have hk2 : ¬ (L : Int) ≤ lk := by omega
  have hg' : (L : Int) < ll := by omega
  have hip : 0 < i := by omega
  have hj0 : (0 : Int) ≤ j := by omega
  have hjm : (j : Int) < m := by omega
  have hwm : IntKind.i64.wrap ((i : Int) - 1) = (j : Int) := by rw [IntWalk.i64_in _ (by omega)]; omega
  clear hij
  clear hl H
  go_enter Try.func54, Try.ntmps54
  go_wp2_with fail
  refine wp_region_noPanic ?_
  refine wp_region_J (S := fun u : World => u.cell? ⟨pk, 0, none⟩ = some (.slice ak lk ck)) (fun _ => false) (by kernel_rfl) ?_
  have hHeld : (fun u : World => u.cell? ⟨pk, 0, none⟩ = some (.slice ak lk ck)) w.drew := dk
  refine wpAnyJ_take0 (i := 0) (v := ?_) rfl (by kernel_rfl) (by kernel_rfl) (by kernel_rfl) (fun _ _ _ h => h) (Or.inl ⟨by rfl, ?_⟩) ?_
  rotate_left
  focus ((intro w hSw; clear hSw; go_simp); try with_reducible rfl)
  (try simp only [Act.put, List.getElem_toArray, List.getElem_cons_zero, List.getElem_cons_succ, List.setIfInBounds_toArray, List.set_cons_zero, List.set_cons_succ])
  refine wpAnyJ_take0 (i := 1) (v := ?_) rfl (by kernel_rfl) (by kernel_rfl) (by kernel_rfl) (fun _ _ _ h => h) (Or.inl ⟨by rfl, ?_⟩) ?_
  rotate_left
  focus ((intro w hSw; clear hSw; go_simp); try with_reducible rfl)
  (try simp only [Act.put, List.getElem_toArray, List.getElem_cons_zero, List.getElem_cons_succ, List.setIfInBounds_toArray, List.set_cons_zero, List.set_cons_succ])
  refine wpAnyJ_take0 (i := 2) (v := ?_) rfl (by kernel_rfl) (by kernel_rfl) (by kernel_rfl) (fun _ _ _ h => h) (Or.inl ⟨by rfl, ?_⟩) ?_
  rotate_left
  focus ((intro w hSw; clear hSw; go_simp); try with_reducible rfl)
  (try simp only [Act.put, List.getElem_toArray, List.getElem_cons_zero, List.getElem_cons_succ, List.setIfInBounds_toArray, List.set_cons_zero, List.set_cons_succ])
  refine wpAnyJ_take (i := 3) (v := ?_) rfl (by kernel_rfl) (by kernel_rfl) (by kernel_rfl) (by kernel_rfl) (fun _ _ _ h => h) (Or.inl ⟨by rfl, ?_⟩) (by assumption) ?_
  rotate_left
  focus ((intro w hSw; (try dsimp only at hSw); go_simp); try with_reducible rfl)
  (try simp only [Act.put, List.getElem_toArray, List.getElem_cons_zero, List.getElem_cons_succ, List.setIfInBounds_toArray, List.set_cons_zero, List.set_cons_succ])
  refine wpAnyJ_take0 (i := 4) (v := ?_) rfl (by kernel_rfl) (by kernel_rfl) (by kernel_rfl) (fun _ _ _ h => h) (Or.inl ⟨by rfl, ?_⟩) ?_
  rotate_left
  focus ((intro w hSw; clear hSw; go_simp); try with_reducible rfl)
  (try simp only [Act.put, List.getElem_toArray, List.getElem_cons_zero, List.getElem_cons_succ, List.setIfInBounds_toArray, List.set_cons_zero, List.set_cons_succ])
  refine wpAnyJ_take0 (i := 5) (v := ?_) rfl (by kernel_rfl) (by kernel_rfl) (by kernel_rfl) (fun _ _ _ h => h) (Or.inl ⟨by rfl, ?_⟩) ?_
  rotate_left
  focus ((intro w hSw; clear hSw; go_simp); try with_reducible rfl)
  (try simp only [Act.put, List.getElem_toArray, List.getElem_cons_zero, List.getElem_cons_succ, List.setIfInBounds_toArray, List.set_cons_zero, List.set_cons_succ])
  refine wpAnyJ_take0 (i := 6) (v := ?_) rfl (by kernel_rfl) (by kernel_rfl) (by kernel_rfl) (fun _ _ _ h => h) (Or.inl ⟨by rfl, ?_⟩) ?_
  rotate_left
  focus ((intro w hSw; clear hSw; go_simp); try with_reducible rfl)
  (try simp only [Act.put, List.getElem_toArray, List.getElem_cons_zero, List.getElem_cons_succ, List.setIfInBounds_toArray, List.set_cons_zero, List.set_cons_succ])
  refine wpAnyJ_ready (rs := [7]) (by kernel_rfl) (by simp) ?_
  refine AllReadyJ.cons rfl (fun KK hKK => ?_) AllReadyJ.nil
  go_simp
  go_at_call 48
  refine (HL.out w.drew ⟨rfl, rfl, rfl, rfl⟩).mono ?_
  rintro e u1 ⟨rfl, rfl⟩
  refine hKK.out _ _ (fun _ h => h) ?_
  clear hKK KK
  (try simp only [Act.put, List.getElem_toArray, List.getElem_cons_zero, List.getElem_cons_succ, List.setIfInBounds_toArray, List.set_cons_zero, List.set_cons_succ])
  refine wpAnyJ_take0 (i := 8) (v := ?_) rfl (by kernel_rfl) (by kernel_rfl) (by kernel_rfl) (fun _ _ _ h => h) (Or.inl ⟨by rfl, ?_⟩) ?_
  rotate_left
  focus ((intro w hSw; clear hSw; go_simp); try with_reducible rfl)
  (try simp only [Act.put, List.getElem_toArray, List.getElem_cons_zero, List.getElem_cons_succ, List.setIfInBounds_toArray, List.set_cons_zero, List.set_cons_succ])
  refine wpAnyJ_done (by kernel_rfl) ?_ _
  refine NoPanic.normal ?_
  go_wp2_with fail
  refine wp_region_noPanic ?_
  refine wp_region_J (S := fun u : World => u.cell? ⟨p, 2, none⟩ = some (.slice (some ⟨g3, 0, none⟩) m c3) ∧ u.cell? ⟨g3, j, none⟩ = some (.pointer (some ⟨pl, 0, none⟩)) ∧ u.cell? ⟨pl, 0, none⟩ = some (.slice al ll cl)) (fun _ => false) (by kernel_rfl) ?_
  have hHeld : (fun u : World => u.cell? ⟨p, 2, none⟩ = some (.slice (some ⟨g3, 0, none⟩) m c3) ∧ u.cell? ⟨g3, j, none⟩ = some (.pointer (some ⟨pl, 0, none⟩)) ∧ u.cell? ⟨pl, 0, none⟩ = some (.slice al ll cl)) w.drew.drew := ⟨dn, kl, dl⟩
  refine wpAnyJ_take0 (i := 0) (v := ?_) rfl (by kernel_rfl) (by kernel_rfl) (by kernel_rfl) (fun _ _ _ h => h) (Or.inl ⟨by rfl, ?_⟩) ?_
  rotate_left
  focus ((intro w hSw; clear hSw; go_simp); try with_reducible rfl)
  (try simp only [Act.put, List.getElem_toArray, List.getElem_cons_zero, List.getElem_cons_succ, List.setIfInBounds_toArray, List.set_cons_zero, List.set_cons_succ])
  refine wpAnyJ_take0 (i := 1) (v := ?_) rfl (by kernel_rfl) (by kernel_rfl) (by kernel_rfl) (fun _ _ _ h => h) (Or.inl ⟨by rfl, ?_⟩) ?_
  rotate_left
  focus ((intro w hSw; clear hSw; go_simp); try with_reducible rfl)
  (try simp only [Act.put, List.getElem_toArray, List.getElem_cons_zero, List.getElem_cons_succ, List.setIfInBounds_toArray, List.set_cons_zero, List.set_cons_succ])
  refine wpAnyJ_take0 (i := 2) (v := ?_) rfl (by kernel_rfl) (by kernel_rfl) (by kernel_rfl) (fun _ _ _ h => h) (Or.inl ⟨by rfl, ?_⟩) ?_
  rotate_left
  focus ((intro w hSw; clear hSw; go_simp); try with_reducible rfl)
  (try simp only [Act.put, List.getElem_toArray, List.getElem_cons_zero, List.getElem_cons_succ, List.setIfInBounds_toArray, List.set_cons_zero, List.set_cons_succ])
  refine wpAnyJ_take0 (i := 3) (v := ?_) rfl (by kernel_rfl) (by kernel_rfl) (by kernel_rfl) (fun _ _ _ h => h) (Or.inl ⟨by rfl, ?_⟩) ?_
  rotate_left
  focus ((intro w hSw; clear hSw; go_simp); try with_reducible rfl)
  (try simp only [Act.put, List.getElem_toArray, List.getElem_cons_zero, List.getElem_cons_succ, List.setIfInBounds_toArray, List.set_cons_zero, List.set_cons_succ])
  refine wpAnyJ_take0 (i := 4) (v := ?_) rfl (by kernel_rfl) (by kernel_rfl) (by kernel_rfl) (fun _ _ _ h => h) (Or.inl ⟨by rfl, ?_⟩) ?_
  rotate_left
  focus ((intro w hSw; clear hSw; go_simp); try with_reducible rfl)
  (try simp only [Act.put, List.getElem_toArray, List.getElem_cons_zero, List.getElem_cons_succ, List.setIfInBounds_toArray, List.set_cons_zero, List.set_cons_succ])
  refine wpAnyJ_take0 (i := 5) (v := ?_) rfl (by kernel_rfl) (by kernel_rfl) (by kernel_rfl) (fun _ _ _ h => h) (Or.inl ⟨by rfl, ?_⟩) ?_
  rotate_left
  focus ((intro w hSw; clear hSw; go_simp); try with_reducible rfl)
  (try simp only [Act.put, List.getElem_toArray, List.getElem_cons_zero, List.getElem_cons_succ, List.setIfInBounds_toArray, List.set_cons_zero, List.set_cons_succ])
  refine wpAnyJ_take (i := 6) (v := ?_) rfl (by kernel_rfl) (by kernel_rfl) (by kernel_rfl) (by kernel_rfl) (fun _ _ _ h => h) (Or.inl ⟨by rfl, ?_⟩) (by assumption) ?_
  rotate_left
  focus ((intro w hSw; (try dsimp only at hSw); go_simp); try with_reducible rfl)
  (try simp only [Act.put, List.getElem_toArray, List.getElem_cons_zero, List.getElem_cons_succ, List.setIfInBounds_toArray, List.set_cons_zero, List.set_cons_succ])
  refine wpAnyJ_take0 (i := 7) (v := ?_) rfl (by kernel_rfl) (by kernel_rfl) (by kernel_rfl) (fun _ _ _ h => h) (Or.inl ⟨by rfl, ?_⟩) ?_
  rotate_left
  focus ((intro w hSw; clear hSw; go_simp); try with_reducible rfl)
  (try simp only [Act.put, List.getElem_toArray, List.getElem_cons_zero, List.getElem_cons_succ, List.setIfInBounds_toArray, List.set_cons_zero, List.set_cons_succ])
  refine wpAnyJ_take0 (i := 8) (v := ?_) rfl (by kernel_rfl) (by kernel_rfl) (by kernel_rfl) (fun _ _ _ h => h) (Or.inl ⟨by rfl, ?_⟩) ?_
  rotate_left
  focus ((intro w hSw; clear hSw; go_simp); try with_reducible rfl)
  (try simp only [Act.put, List.getElem_toArray, List.getElem_cons_zero, List.getElem_cons_succ, List.setIfInBounds_toArray, List.set_cons_zero, List.set_cons_succ])
  refine wpAnyJ_take0 (i := 9) (v := ?_) rfl (by kernel_rfl) (by kernel_rfl) (by kernel_rfl) (fun _ _ _ h => h) (Or.inl ⟨by rfl, ?_⟩) ?_
  rotate_left
  focus ((intro w hSw; clear hSw; go_simp); try with_reducible rfl)
  (try simp only [Act.put, List.getElem_toArray, List.getElem_cons_zero, List.getElem_cons_succ, List.setIfInBounds_toArray, List.set_cons_zero, List.set_cons_succ])
  refine wpAnyJ_take (i := 10) (v := ?_) rfl (by kernel_rfl) (by kernel_rfl) (by kernel_rfl) (by kernel_rfl) (fun _ _ _ h => h) (Or.inl ⟨by rfl, ?_⟩) (by assumption) ?_
  rotate_left
  focus ((intro w hSw; (try dsimp only at hSw); go_simp); try with_reducible rfl)
  (try simp only [Act.put, List.getElem_toArray, List.getElem_cons_zero, List.getElem_cons_succ, List.setIfInBounds_toArray, List.set_cons_zero, List.set_cons_succ])
  refine wpAnyJ_take0 (i := 11) (v := ?_) rfl (by kernel_rfl) (by kernel_rfl) (by kernel_rfl) (fun _ _ _ h => h) (Or.inl ⟨by rfl, ?_⟩) ?_
  rotate_left
  focus ((intro w hSw; clear hSw; go_simp); try with_reducible rfl)
  (try simp only [Act.put, List.getElem_toArray, List.getElem_cons_zero, List.getElem_cons_succ, List.setIfInBounds_toArray, List.set_cons_zero, List.set_cons_succ])
  refine wpAnyJ_take0 (i := 12) (v := ?_) rfl (by kernel_rfl) (by kernel_rfl) (by kernel_rfl) (fun _ _ _ h => h) (Or.inl ⟨by rfl, ?_⟩) ?_
  rotate_left
  focus ((intro w hSw; clear hSw; go_simp); try with_reducible rfl)
  (try simp only [Act.put, List.getElem_toArray, List.getElem_cons_zero, List.getElem_cons_succ, List.setIfInBounds_toArray, List.set_cons_zero, List.set_cons_succ])
  refine wpAnyJ_take (i := 13) (v := ?_) rfl (by kernel_rfl) (by kernel_rfl) (by kernel_rfl) (by kernel_rfl) (fun _ _ _ h => h) (Or.inl ⟨by rfl, ?_⟩) (by assumption) ?_
  rotate_left
  focus ((intro w hSw; (try dsimp only at hSw); go_simp); try with_reducible rfl)
  (try simp only [Act.put, List.getElem_toArray, List.getElem_cons_zero, List.getElem_cons_succ, List.setIfInBounds_toArray, List.set_cons_zero, List.set_cons_succ])
  refine wpAnyJ_take0 (i := 14) (v := ?_) rfl (by kernel_rfl) (by kernel_rfl) (by kernel_rfl) (fun _ _ _ h => h) (Or.inl ⟨by rfl, ?_⟩) ?_
  rotate_left
  focus ((intro w hSw; clear hSw; go_simp); try with_reducible rfl)
  (try simp only [Act.put, List.getElem_toArray, List.getElem_cons_zero, List.getElem_cons_succ, List.setIfInBounds_toArray, List.set_cons_zero, List.set_cons_succ])
  refine wpAnyJ_take0 (i := 15) (v := ?_) rfl (by kernel_rfl) (by kernel_rfl) (by kernel_rfl) (fun _ _ _ h => h) (Or.inl ⟨by rfl, ?_⟩) ?_
  rotate_left
  focus ((intro w hSw; clear hSw; go_simp); try with_reducible rfl)
  (try simp only [Act.put, List.getElem_toArray, List.getElem_cons_zero, List.getElem_cons_succ, List.setIfInBounds_toArray, List.set_cons_zero, List.set_cons_succ])
  refine wpAnyJ_take0 (i := 16) (v := ?_) rfl (by kernel_rfl) (by kernel_rfl) (by kernel_rfl) (fun _ _ _ h => h) (Or.inl ⟨by rfl, ?_⟩) ?_
  rotate_left
  focus ((intro w hSw; clear hSw; go_simp); try with_reducible rfl)
  (try simp only [Act.put, List.getElem_toArray, List.getElem_cons_zero, List.getElem_cons_succ, List.setIfInBounds_toArray, List.set_cons_zero, List.set_cons_succ])
  refine wpAnyJ_ready (rs := [17]) (by kernel_rfl) (by simp) ?_
  refine AllReadyJ.cons rfl (fun KK hKK => ?_) AllReadyJ.nil
  go_simp
  go_at_call 48
  refine (HL.out w.drew.drew ⟨rfl, rfl, rfl, rfl⟩).mono ?_
  rintro e u1 ⟨rfl, rfl⟩
  refine hKK.out _ _ (fun _ h => h) ?_
  clear hKK KK
  (try simp only [Act.put, List.getElem_toArray, List.getElem_cons_zero, List.getElem_cons_succ, List.setIfInBounds_toArray, List.set_cons_zero, List.set_cons_succ])
  refine wpAnyJ_take0 (i := 18) (v := ?_) rfl (by kernel_rfl) (by kernel_rfl) (by kernel_rfl) (fun _ _ _ h => h) (Or.inl ⟨by rfl, ?_⟩) ?_
  rotate_left
  focus ((intro w hSw; clear hSw; go_simp); try with_reducible rfl)
  (try simp only [Act.put, List.getElem_toArray, List.getElem_cons_zero, List.getElem_cons_succ, List.setIfInBounds_toArray, List.set_cons_zero, List.set_cons_succ])
  refine wpAnyJ_take0 (i := 19) (v := ?_) rfl (by kernel_rfl) (by kernel_rfl) (by kernel_rfl) (fun _ _ _ h => h) (Or.inl ⟨by rfl, ?_⟩) ?_
  rotate_left
  focus ((intro w hSw; clear hSw; go_simp); try with_reducible rfl)
  (try simp only [Act.put, List.getElem_toArray, List.getElem_cons_zero, List.getElem_cons_succ, List.setIfInBounds_toArray, List.set_cons_zero, List.set_cons_succ])
  refine wpAnyJ_take0 (i := 20) (v := ?_) rfl (by kernel_rfl) (by kernel_rfl) (by kernel_rfl) (fun _ _ _ h => h) (Or.inl ⟨by rfl, ?_⟩) ?_
  rotate_left
  focus ((intro w hSw; clear hSw; go_simp); try with_reducible rfl)
  (try simp only [Act.put, List.getElem_toArray, List.getElem_cons_zero, List.getElem_cons_succ, List.setIfInBounds_toArray, List.set_cons_zero, List.set_cons_succ])
  refine wpAnyJ_done (by kernel_rfl) ?_ _
  refine NoPanic.normal ?_
  go_wp2_with fail
  refine (HH.out w.drew.drew ⟨rfl, rfl, rfl, rfl⟩).mono ?_
  rintro e w' ⟨rfl, hq⟩
  have HQ := Lib.hid hq
  clear hq
  go_wp2_with fail
  exact ⟨rfl, _, results_none rfl _ _ _, rfl, HQ.out⟩
set_option maxRecDepth 100000 in
set_option maxHeartbeats 16000000 in
theorem mend_right1 {w : World} {p tb i j m c3 g3 pk pl pr L lk ll lr ck cl cr : Nat} {ak al ar : Option Addr} {Q : World → Prop} (dn : w.cell? ⟨p, 2, none⟩ = some (.slice (some ⟨g3, 0, none⟩) m c3)) (hi : i < m) (hm : m ≤ 1000)
    (ki : w.cell? ⟨g3, i, none⟩ = some (.pointer (some ⟨pk, 0, none⟩))) (dk : w.cell? ⟨pk, 0, none⟩ = some (.slice ak lk ck))
    (hl : ∀ W, Same4 w W → Calls Try.prog 48 #[.pointer (some ⟨tb, 0, none⟩), .pointer (some ⟨pk, 0, none⟩)] W fun e w' => e = .returned (.int .i64 L) ∧ W = w')
    (hk : lk < L) (hij : i = j + 1) (kl : w.cell? ⟨g3, j, none⟩ = some (.pointer (some ⟨pl, 0, none⟩))) (dl : w.cell? ⟨pl, 0, none⟩ = some (.slice al ll cl)) (hg : ll ≤ L) (him : i + 1 < m) (kr : w.cell? ⟨g3, i + 1, none⟩ = some (.pointer (some ⟨pr, 0, none⟩))) (dr : w.cell? ⟨pr, 0, none⟩ = some (.slice ar lr cr)) (hg2 : L < lr)
    (H : ∀ W, Same4 w W → Calls Try.prog 62 #[.pointer (some ⟨p, 0, none⟩), .int .i64 ((i : Int) + 1), .int .i64 i] W fun e w' => e = .returned (.tuple #[]) ∧ Q w') :
    Calls Try.prog 54 #[.pointer (some ⟨tb, 0, none⟩), .pointer (some ⟨p, 0, none⟩), .int .i64 i] w (fun e w' => e = .returned (.tuple #[]) ∧ Q w') := by
  have HL := Lib.hid hl
  have HH := Lib.hid H
  have hi' : (i : Int) < m := by omega
  have hi0 : (0 : Int) ≤ i := by omega
  have hwp : IntKind.i64.wrap ((i : Int) + 1) = (i : Int) + 1 := IntWalk.i64_in _ (by omega)
  have hnn : ((i : Int) + 1).toNat = i + 1 := by omega
  have hi1 : (0 : Int) ≤ (i : Int) + 1 := by omega
  have hk2 : ¬ (L : Int) ≤ lk := by omega
  have hg' : ¬ (L : Int) < ll := by omega
  have hg2' : (L : Int) < lr := by omega
  have hip : 0 < i := by omega
  have hj0 : (0 : Int) ≤ j := by omega
  have hjm : (j : Int) < m := by omega
  have hwm : IntKind.i64.wrap ((i : Int) - 1) = (j : Int) := by rw [IntWalk.i64_in _ (by omega)]; omega
  clear hij
  have him' : (i : Int) + 1 < m := by omega
  clear him
  clear hl H
  go_enter Try.func54, Try.ntmps54
  go_wp2_with fail
  refine wp_region_noPanic ?_
  refine wp_region_J (S := fun u : World => u.cell? ⟨pk, 0, none⟩ = some (.slice ak lk ck)) (fun _ => false) (by kernel_rfl) ?_
  have hHeld : (fun u : World => u.cell? ⟨pk, 0, none⟩ = some (.slice ak lk ck)) w.drew := dk
  refine wpAnyJ_take0 (i := 0) (v := ?_) rfl (by kernel_rfl) (by kernel_rfl) (by kernel_rfl) (fun _ _ _ h => h) (Or.inl ⟨by rfl, ?_⟩) ?_
  rotate_left
  focus ((intro w hSw; clear hSw; go_simp); try with_reducible rfl)
  (try simp only [Act.put, List.getElem_toArray, List.getElem_cons_zero, List.getElem_cons_succ, List.setIfInBounds_toArray, List.set_cons_zero, List.set_cons_succ])
  refine wpAnyJ_take0 (i := 1) (v := ?_) rfl (by kernel_rfl) (by kernel_rfl) (by kernel_rfl) (fun _ _ _ h => h) (Or.inl ⟨by rfl, ?_⟩) ?_
  rotate_left
  focus ((intro w hSw; clear hSw; go_simp); try with_reducible rfl)
  (try simp only [Act.put, List.getElem_toArray, List.getElem_cons_zero, List.getElem_cons_succ, List.setIfInBounds_toArray, List.set_cons_zero, List.set_cons_succ])
  refine wpAnyJ_take0 (i := 2) (v := ?_) rfl (by kernel_rfl) (by kernel_rfl) (by kernel_rfl) (fun _ _ _ h => h) (Or.inl ⟨by rfl, ?_⟩) ?_
  rotate_left
  focus ((intro w hSw; clear hSw; go_simp); try with_reducible rfl)
  (try simp only [Act.put, List.getElem_toArray, List.getElem_cons_zero, List.getElem_cons_succ, List.setIfInBounds_toArray, List.set_cons_zero, List.set_cons_succ])
  refine wpAnyJ_take (i := 3) (v := ?_) rfl (by kernel_rfl) (by kernel_rfl) (by kernel_rfl) (by kernel_rfl) (fun _ _ _ h => h) (Or.inl ⟨by rfl, ?_⟩) (by assumption) ?_
  rotate_left
  focus ((intro w hSw; (try dsimp only at hSw); go_simp); try with_reducible rfl)
  (try simp only [Act.put, List.getElem_toArray, List.getElem_cons_zero, List.getElem_cons_succ, List.setIfInBounds_toArray, List.set_cons_zero, List.set_cons_succ])
  refine wpAnyJ_take0 (i := 4) (v := ?_) rfl (by kernel_rfl) (by kernel_rfl) (by kernel_rfl) (fun _ _ _ h => h) (Or.inl ⟨by rfl, ?_⟩) ?_
  rotate_left
  focus ((intro w hSw; clear hSw; go_simp); try with_reducible rfl)
  (try simp only [Act.put, List.getElem_toArray, List.getElem_cons_zero, List.getElem_cons_succ, List.setIfInBounds_toArray, List.set_cons_zero, List.set_cons_succ])
  refine wpAnyJ_take0 (i := 5) (v := ?_) rfl (by kernel_rfl) (by kernel_rfl) (by kernel_rfl) (fun _ _ _ h => h) (Or.inl ⟨by rfl, ?_⟩) ?_
  rotate_left
  focus ((intro w hSw; clear hSw; go_simp); try with_reducible rfl)
  (try simp only [Act.put, List.getElem_toArray, List.getElem_cons_zero, List.getElem_cons_succ, List.setIfInBounds_toArray, List.set_cons_zero, List.set_cons_succ])
  refine wpAnyJ_take0 (i := 6) (v := ?_) rfl (by kernel_rfl) (by kernel_rfl) (by kernel_rfl) (fun _ _ _ h => h) (Or.inl ⟨by rfl, ?_⟩) ?_
  rotate_left
  focus ((intro w hSw; clear hSw; go_simp); try with_reducible rfl)
  (try simp only [Act.put, List.getElem_toArray, List.getElem_cons_zero, List.getElem_cons_succ, List.setIfInBounds_toArray, List.set_cons_zero, List.set_cons_succ])
  refine wpAnyJ_ready (rs := [7]) (by kernel_rfl) (by simp) ?_
  refine AllReadyJ.cons rfl (fun KK hKK => ?_) AllReadyJ.nil
  go_simp
  go_at_call 48
  refine (HL.out w.drew ⟨rfl, rfl, rfl, rfl⟩).mono ?_
  rintro e u1 ⟨rfl, rfl⟩
  refine hKK.out _ _ (fun _ h => h) ?_
  clear hKK KK
  (try simp only [Act.put, List.getElem_toArray, List.getElem_cons_zero, List.getElem_cons_succ, List.setIfInBounds_toArray, List.set_cons_zero, List.set_cons_succ])
  refine wpAnyJ_take0 (i := 8) (v := ?_) rfl (by kernel_rfl) (by kernel_rfl) (by kernel_rfl) (fun _ _ _ h => h) (Or.inl ⟨by rfl, ?_⟩) ?_
  rotate_left
  focus ((intro w hSw; clear hSw; go_simp); try with_reducible rfl)
  (try simp only [Act.put, List.getElem_toArray, List.getElem_cons_zero, List.getElem_cons_succ, List.setIfInBounds_toArray, List.set_cons_zero, List.set_cons_succ])
  refine wpAnyJ_done (by kernel_rfl) ?_ _
  refine NoPanic.normal ?_
  go_wp2_with fail
  refine wp_region_noPanic ?_
  refine wp_region_J (S := fun u : World => u.cell? ⟨p, 2, none⟩ = some (.slice (some ⟨g3, 0, none⟩) m c3) ∧ u.cell? ⟨g3, j, none⟩ = some (.pointer (some ⟨pl, 0, none⟩)) ∧ u.cell? ⟨pl, 0, none⟩ = some (.slice al ll cl)) (fun _ => false) (by kernel_rfl) ?_
  have hHeld : (fun u : World => u.cell? ⟨p, 2, none⟩ = some (.slice (some ⟨g3, 0, none⟩) m c3) ∧ u.cell? ⟨g3, j, none⟩ = some (.pointer (some ⟨pl, 0, none⟩)) ∧ u.cell? ⟨pl, 0, none⟩ = some (.slice al ll cl)) w.drew.drew := ⟨dn, kl, dl⟩
  refine wpAnyJ_take0 (i := 0) (v := ?_) rfl (by kernel_rfl) (by kernel_rfl) (by kernel_rfl) (fun _ _ _ h => h) (Or.inl ⟨by rfl, ?_⟩) ?_
  rotate_left
  focus ((intro w hSw; clear hSw; go_simp); try with_reducible rfl)
  (try simp only [Act.put, List.getElem_toArray, List.getElem_cons_zero, List.getElem_cons_succ, List.setIfInBounds_toArray, List.set_cons_zero, List.set_cons_succ])
  refine wpAnyJ_take0 (i := 1) (v := ?_) rfl (by kernel_rfl) (by kernel_rfl) (by kernel_rfl) (fun _ _ _ h => h) (Or.inl ⟨by rfl, ?_⟩) ?_
  rotate_left
  focus ((intro w hSw; clear hSw; go_simp); try with_reducible rfl)
  (try simp only [Act.put, List.getElem_toArray, List.getElem_cons_zero, List.getElem_cons_succ, List.setIfInBounds_toArray, List.set_cons_zero, List.set_cons_succ])
  refine wpAnyJ_take0 (i := 2) (v := ?_) rfl (by kernel_rfl) (by kernel_rfl) (by kernel_rfl) (fun _ _ _ h => h) (Or.inl ⟨by rfl, ?_⟩) ?_
  rotate_left
  focus ((intro w hSw; clear hSw; go_simp); try with_reducible rfl)
  (try simp only [Act.put, List.getElem_toArray, List.getElem_cons_zero, List.getElem_cons_succ, List.setIfInBounds_toArray, List.set_cons_zero, List.set_cons_succ])
  refine wpAnyJ_take0 (i := 3) (v := ?_) rfl (by kernel_rfl) (by kernel_rfl) (by kernel_rfl) (fun _ _ _ h => h) (Or.inl ⟨by rfl, ?_⟩) ?_
  rotate_left
  focus ((intro w hSw; clear hSw; go_simp); try with_reducible rfl)
  (try simp only [Act.put, List.getElem_toArray, List.getElem_cons_zero, List.getElem_cons_succ, List.setIfInBounds_toArray, List.set_cons_zero, List.set_cons_succ])
  refine wpAnyJ_take0 (i := 4) (v := ?_) rfl (by kernel_rfl) (by kernel_rfl) (by kernel_rfl) (fun _ _ _ h => h) (Or.inl ⟨by rfl, ?_⟩) ?_
  rotate_left
  focus ((intro w hSw; clear hSw; go_simp); try with_reducible rfl)
  (try simp only [Act.put, List.getElem_toArray, List.getElem_cons_zero, List.getElem_cons_succ, List.setIfInBounds_toArray, List.set_cons_zero, List.set_cons_succ])
  refine wpAnyJ_take0 (i := 5) (v := ?_) rfl (by kernel_rfl) (by kernel_rfl) (by kernel_rfl) (fun _ _ _ h => h) (Or.inl ⟨by rfl, ?_⟩) ?_
  rotate_left
  focus ((intro w hSw; clear hSw; go_simp); try with_reducible rfl)
  (try simp only [Act.put, List.getElem_toArray, List.getElem_cons_zero, List.getElem_cons_succ, List.setIfInBounds_toArray, List.set_cons_zero, List.set_cons_succ])
  refine wpAnyJ_take (i := 6) (v := ?_) rfl (by kernel_rfl) (by kernel_rfl) (by kernel_rfl) (by kernel_rfl) (fun _ _ _ h => h) (Or.inl ⟨by rfl, ?_⟩) (by assumption) ?_
  rotate_left
  focus ((intro w hSw; (try dsimp only at hSw); go_simp); try with_reducible rfl)
  (try simp only [Act.put, List.getElem_toArray, List.getElem_cons_zero, List.getElem_cons_succ, List.setIfInBounds_toArray, List.set_cons_zero, List.set_cons_succ])
  refine wpAnyJ_take0 (i := 7) (v := ?_) rfl (by kernel_rfl) (by kernel_rfl) (by kernel_rfl) (fun _ _ _ h => h) (Or.inl ⟨by rfl, ?_⟩) ?_
  rotate_left
  focus ((intro w hSw; clear hSw; go_simp); try with_reducible rfl)
  (try simp only [Act.put, List.getElem_toArray, List.getElem_cons_zero, List.getElem_cons_succ, List.setIfInBounds_toArray, List.set_cons_zero, List.set_cons_succ])
  refine wpAnyJ_take0 (i := 8) (v := ?_) rfl (by kernel_rfl) (by kernel_rfl) (by kernel_rfl) (fun _ _ _ h => h) (Or.inl ⟨by rfl, ?_⟩) ?_
  rotate_left
  focus ((intro w hSw; clear hSw; go_simp); try with_reducible rfl)
  (try simp only [Act.put, List.getElem_toArray, List.getElem_cons_zero, List.getElem_cons_succ, List.setIfInBounds_toArray, List.set_cons_zero, List.set_cons_succ])
  refine wpAnyJ_take0 (i := 9) (v := ?_) rfl (by kernel_rfl) (by kernel_rfl) (by kernel_rfl) (fun _ _ _ h => h) (Or.inl ⟨by rfl, ?_⟩) ?_
  rotate_left
  focus ((intro w hSw; clear hSw; go_simp); try with_reducible rfl)
  (try simp only [Act.put, List.getElem_toArray, List.getElem_cons_zero, List.getElem_cons_succ, List.setIfInBounds_toArray, List.set_cons_zero, List.set_cons_succ])
  refine wpAnyJ_take (i := 10) (v := ?_) rfl (by kernel_rfl) (by kernel_rfl) (by kernel_rfl) (by kernel_rfl) (fun _ _ _ h => h) (Or.inl ⟨by rfl, ?_⟩) (by assumption) ?_
  rotate_left
  focus ((intro w hSw; (try dsimp only at hSw); go_simp); try with_reducible rfl)
  (try simp only [Act.put, List.getElem_toArray, List.getElem_cons_zero, List.getElem_cons_succ, List.setIfInBounds_toArray, List.set_cons_zero, List.set_cons_succ])
  refine wpAnyJ_take0 (i := 11) (v := ?_) rfl (by kernel_rfl) (by kernel_rfl) (by kernel_rfl) (fun _ _ _ h => h) (Or.inl ⟨by rfl, ?_⟩) ?_
  rotate_left
  focus ((intro w hSw; clear hSw; go_simp); try with_reducible rfl)
  (try simp only [Act.put, List.getElem_toArray, List.getElem_cons_zero, List.getElem_cons_succ, List.setIfInBounds_toArray, List.set_cons_zero, List.set_cons_succ])
  refine wpAnyJ_take0 (i := 12) (v := ?_) rfl (by kernel_rfl) (by kernel_rfl) (by kernel_rfl) (fun _ _ _ h => h) (Or.inl ⟨by rfl, ?_⟩) ?_
  rotate_left
  focus ((intro w hSw; clear hSw; go_simp); try with_reducible rfl)
  (try simp only [Act.put, List.getElem_toArray, List.getElem_cons_zero, List.getElem_cons_succ, List.setIfInBounds_toArray, List.set_cons_zero, List.set_cons_succ])
  refine wpAnyJ_take (i := 13) (v := ?_) rfl (by kernel_rfl) (by kernel_rfl) (by kernel_rfl) (by kernel_rfl) (fun _ _ _ h => h) (Or.inl ⟨by rfl, ?_⟩) (by assumption) ?_
  rotate_left
  focus ((intro w hSw; (try dsimp only at hSw); go_simp); try with_reducible rfl)
  (try simp only [Act.put, List.getElem_toArray, List.getElem_cons_zero, List.getElem_cons_succ, List.setIfInBounds_toArray, List.set_cons_zero, List.set_cons_succ])
  refine wpAnyJ_take0 (i := 14) (v := ?_) rfl (by kernel_rfl) (by kernel_rfl) (by kernel_rfl) (fun _ _ _ h => h) (Or.inl ⟨by rfl, ?_⟩) ?_
  rotate_left
  focus ((intro w hSw; clear hSw; go_simp); try with_reducible rfl)
  (try simp only [Act.put, List.getElem_toArray, List.getElem_cons_zero, List.getElem_cons_succ, List.setIfInBounds_toArray, List.set_cons_zero, List.set_cons_succ])
  refine wpAnyJ_take0 (i := 15) (v := ?_) rfl (by kernel_rfl) (by kernel_rfl) (by kernel_rfl) (fun _ _ _ h => h) (Or.inl ⟨by rfl, ?_⟩) ?_
  rotate_left
  focus ((intro w hSw; clear hSw; go_simp); try with_reducible rfl)
  (try simp only [Act.put, List.getElem_toArray, List.getElem_cons_zero, List.getElem_cons_succ, List.setIfInBounds_toArray, List.set_cons_zero, List.set_cons_succ])
  refine wpAnyJ_take0 (i := 16) (v := ?_) rfl (by kernel_rfl) (by kernel_rfl) (by kernel_rfl) (fun _ _ _ h => h) (Or.inl ⟨by rfl, ?_⟩) ?_
  rotate_left
  focus ((intro w hSw; clear hSw; go_simp); try with_reducible rfl)
  (try simp only [Act.put, List.getElem_toArray, List.getElem_cons_zero, List.getElem_cons_succ, List.setIfInBounds_toArray, List.set_cons_zero, List.set_cons_succ])
  refine wpAnyJ_ready (rs := [17]) (by kernel_rfl) (by simp) ?_
  refine AllReadyJ.cons rfl (fun KK hKK => ?_) AllReadyJ.nil
  go_simp
  go_at_call 48
  refine (HL.out w.drew.drew ⟨rfl, rfl, rfl, rfl⟩).mono ?_
  rintro e u1 ⟨rfl, rfl⟩
  refine hKK.out _ _ (fun _ h => h) ?_
  clear hKK KK
  (try simp only [Act.put, List.getElem_toArray, List.getElem_cons_zero, List.getElem_cons_succ, List.setIfInBounds_toArray, List.set_cons_zero, List.set_cons_succ])
  refine wpAnyJ_take0 (i := 18) (v := ?_) rfl (by kernel_rfl) (by kernel_rfl) (by kernel_rfl) (fun _ _ _ h => h) (Or.inl ⟨by rfl, ?_⟩) ?_
  rotate_left
  focus ((intro w hSw; clear hSw; go_simp); try with_reducible rfl)
  (try simp only [Act.put, List.getElem_toArray, List.getElem_cons_zero, List.getElem_cons_succ, List.setIfInBounds_toArray, List.set_cons_zero, List.set_cons_succ])
  refine wpAnyJ_take0 (i := 19) (v := ?_) rfl (by kernel_rfl) (by kernel_rfl) (by kernel_rfl) (fun _ _ _ h => h) (Or.inl ⟨by rfl, ?_⟩) ?_
  rotate_left
  focus ((intro w hSw; clear hSw; go_simp); try with_reducible rfl)
  (try simp only [Act.put, List.getElem_toArray, List.getElem_cons_zero, List.getElem_cons_succ, List.setIfInBounds_toArray, List.set_cons_zero, List.set_cons_succ])
  refine wpAnyJ_take0 (i := 20) (v := ?_) rfl (by kernel_rfl) (by kernel_rfl) (by kernel_rfl) (fun _ _ _ h => h) (Or.inl ⟨by rfl, ?_⟩) ?_
  rotate_left
  focus ((intro w hSw; clear hSw; go_simp); try with_reducible rfl)
  (try simp only [Act.put, List.getElem_toArray, List.getElem_cons_zero, List.getElem_cons_succ, List.setIfInBounds_toArray, List.set_cons_zero, List.set_cons_succ])
  refine wpAnyJ_done (by kernel_rfl) ?_ _
  refine NoPanic.normal ?_
  go_wp2_with fail
  refine wp_region_noPanic ?_
  refine wp_region_J (S := fun u : World => u.cell? ⟨p, 2, none⟩ = some (.slice (some ⟨g3, 0, none⟩) m c3) ∧ u.cell? ⟨g3, i + 1, none⟩ = some (.pointer (some ⟨pr, 0, none⟩)) ∧ u.cell? ⟨pr, 0, none⟩ = some (.slice ar lr cr)) (fun _ => false) (by kernel_rfl) ?_
  have hHeld : (fun u : World => u.cell? ⟨p, 2, none⟩ = some (.slice (some ⟨g3, 0, none⟩) m c3) ∧ u.cell? ⟨g3, i + 1, none⟩ = some (.pointer (some ⟨pr, 0, none⟩)) ∧ u.cell? ⟨pr, 0, none⟩ = some (.slice ar lr cr)) w.drew.drew.drew := ⟨dn, kr, dr⟩
  refine wpAnyJ_take0 (i := 0) (v := ?_) rfl (by kernel_rfl) (by kernel_rfl) (by kernel_rfl) (fun _ _ _ h => h) (Or.inl ⟨by rfl, ?_⟩) ?_
  rotate_left
  focus ((intro w hSw; clear hSw; go_simp); try with_reducible rfl)
  (try simp only [Act.put, List.getElem_toArray, List.getElem_cons_zero, List.getElem_cons_succ, List.setIfInBounds_toArray, List.set_cons_zero, List.set_cons_succ])
  refine wpAnyJ_take0 (i := 1) (v := ?_) rfl (by kernel_rfl) (by kernel_rfl) (by kernel_rfl) (fun _ _ _ h => h) (Or.inl ⟨by rfl, ?_⟩) ?_
  rotate_left
  focus ((intro w hSw; clear hSw; go_simp); try with_reducible rfl)
  (try simp only [Act.put, List.getElem_toArray, List.getElem_cons_zero, List.getElem_cons_succ, List.setIfInBounds_toArray, List.set_cons_zero, List.set_cons_succ])
  refine wpAnyJ_take0 (i := 2) (v := ?_) rfl (by kernel_rfl) (by kernel_rfl) (by kernel_rfl) (fun _ _ _ h => h) (Or.inl ⟨by rfl, ?_⟩) ?_
  rotate_left
  focus ((intro w hSw; clear hSw; go_simp); try with_reducible rfl)
  (try simp only [Act.put, List.getElem_toArray, List.getElem_cons_zero, List.getElem_cons_succ, List.setIfInBounds_toArray, List.set_cons_zero, List.set_cons_succ])
  refine wpAnyJ_take0 (i := 3) (v := ?_) rfl (by kernel_rfl) (by kernel_rfl) (by kernel_rfl) (fun _ _ _ h => h) (Or.inl ⟨by rfl, ?_⟩) ?_
  rotate_left
  focus ((intro w hSw; clear hSw; go_simp); try with_reducible rfl)
  (try simp only [Act.put, List.getElem_toArray, List.getElem_cons_zero, List.getElem_cons_succ, List.setIfInBounds_toArray, List.set_cons_zero, List.set_cons_succ])
  refine wpAnyJ_take0 (i := 4) (v := ?_) rfl (by kernel_rfl) (by kernel_rfl) (by kernel_rfl) (fun _ _ _ h => h) (Or.inl ⟨by rfl, ?_⟩) ?_
  rotate_left
  focus ((intro w hSw; clear hSw; go_simp); try with_reducible rfl)
  (try simp only [Act.put, List.getElem_toArray, List.getElem_cons_zero, List.getElem_cons_succ, List.setIfInBounds_toArray, List.set_cons_zero, List.set_cons_succ])
  refine wpAnyJ_take (i := 5) (v := ?_) rfl (by kernel_rfl) (by kernel_rfl) (by kernel_rfl) (by kernel_rfl) (fun _ _ _ h => h) (Or.inl ⟨by rfl, ?_⟩) (by assumption) ?_
  rotate_left
  focus ((intro w hSw; (try dsimp only at hSw); go_simp); try with_reducible rfl)
  (try simp only [Act.put, List.getElem_toArray, List.getElem_cons_zero, List.getElem_cons_succ, List.setIfInBounds_toArray, List.set_cons_zero, List.set_cons_succ])
  refine wpAnyJ_take0 (i := 6) (v := ?_) rfl (by kernel_rfl) (by kernel_rfl) (by kernel_rfl) (fun _ _ _ h => h) (Or.inl ⟨by rfl, ?_⟩) ?_
  rotate_left
  focus ((intro w hSw; clear hSw; go_simp); try with_reducible rfl)
  (try simp only [Act.put, List.getElem_toArray, List.getElem_cons_zero, List.getElem_cons_succ, List.setIfInBounds_toArray, List.set_cons_zero, List.set_cons_succ])
  refine wpAnyJ_take0 (i := 7) (v := ?_) rfl (by kernel_rfl) (by kernel_rfl) (by kernel_rfl) (fun _ _ _ h => h) (Or.inl ⟨by rfl, ?_⟩) ?_
  rotate_left
  focus ((intro w hSw; clear hSw; go_simp); try with_reducible rfl)
  (try simp only [Act.put, List.getElem_toArray, List.getElem_cons_zero, List.getElem_cons_succ, List.setIfInBounds_toArray, List.set_cons_zero, List.set_cons_succ])
  refine wpAnyJ_take0 (i := 8) (v := ?_) rfl (by kernel_rfl) (by kernel_rfl) (by kernel_rfl) (fun _ _ _ h => h) (Or.inl ⟨by rfl, ?_⟩) ?_
  rotate_left
  focus ((intro w hSw; clear hSw; go_simp); try with_reducible rfl)
  (try simp only [Act.put, List.getElem_toArray, List.getElem_cons_zero, List.getElem_cons_succ, List.setIfInBounds_toArray, List.set_cons_zero, List.set_cons_succ])
  refine wpAnyJ_take0 (i := 9) (v := ?_) rfl (by kernel_rfl) (by kernel_rfl) (by kernel_rfl) (fun _ _ _ h => h) (Or.inl ⟨by rfl, ?_⟩) ?_
  rotate_left
  focus ((intro w hSw; clear hSw; go_simp); try with_reducible rfl)
  (try simp only [Act.put, List.getElem_toArray, List.getElem_cons_zero, List.getElem_cons_succ, List.setIfInBounds_toArray, List.set_cons_zero, List.set_cons_succ])
  refine wpAnyJ_take0 (i := 10) (v := ?_) rfl (by kernel_rfl) (by kernel_rfl) (by kernel_rfl) (fun _ _ _ h => h) (Or.inl ⟨by rfl, ?_⟩) ?_
  rotate_left
  focus ((intro w hSw; clear hSw; go_simp); try with_reducible rfl)
  (try simp only [Act.put, List.getElem_toArray, List.getElem_cons_zero, List.getElem_cons_succ, List.setIfInBounds_toArray, List.set_cons_zero, List.set_cons_succ])
  refine wpAnyJ_take0 (i := 11) (v := ?_) rfl (by kernel_rfl) (by kernel_rfl) (by kernel_rfl) (fun _ _ _ h => h) (Or.inl ⟨by rfl, ?_⟩) ?_
  rotate_left
  focus ((intro w hSw; clear hSw; go_simp); try with_reducible rfl)
  (try simp only [Act.put, List.getElem_toArray, List.getElem_cons_zero, List.getElem_cons_succ, List.setIfInBounds_toArray, List.set_cons_zero, List.set_cons_succ])
  refine wpAnyJ_take (i := 12) (v := ?_) rfl (by kernel_rfl) (by kernel_rfl) (by kernel_rfl) (by kernel_rfl) (fun _ _ _ h => h) (Or.inl ⟨by rfl, ?_⟩) (by assumption) ?_
  rotate_left
  focus ((intro w hSw; (try dsimp only at hSw); go_simp); try with_reducible rfl)
  (try simp only [Act.put, List.getElem_toArray, List.getElem_cons_zero, List.getElem_cons_succ, List.setIfInBounds_toArray, List.set_cons_zero, List.set_cons_succ])
  refine wpAnyJ_take0 (i := 13) (v := ?_) rfl (by kernel_rfl) (by kernel_rfl) (by kernel_rfl) (fun _ _ _ h => h) (Or.inl ⟨by rfl, ?_⟩) ?_
  rotate_left
  focus ((intro w hSw; clear hSw; go_simp); try with_reducible rfl)
  (try simp only [Act.put, List.getElem_toArray, List.getElem_cons_zero, List.getElem_cons_succ, List.setIfInBounds_toArray, List.set_cons_zero, List.set_cons_succ])
  refine wpAnyJ_take0 (i := 14) (v := ?_) rfl (by kernel_rfl) (by kernel_rfl) (by kernel_rfl) (fun _ _ _ h => h) (Or.inl ⟨by rfl, ?_⟩) ?_
  rotate_left
  focus ((intro w hSw; clear hSw; go_simp); try with_reducible rfl)
  (try simp only [Act.put, List.getElem_toArray, List.getElem_cons_zero, List.getElem_cons_succ, List.setIfInBounds_toArray, List.set_cons_zero, List.set_cons_succ])
  refine wpAnyJ_take0 (i := 15) (v := ?_) rfl (by kernel_rfl) (by kernel_rfl) (by kernel_rfl) (fun _ _ _ h => h) (Or.inl ⟨by rfl, ?_⟩) ?_
  rotate_left
  focus ((intro w hSw; clear hSw; go_simp); try with_reducible rfl)
  (try simp only [Act.put, List.getElem_toArray, List.getElem_cons_zero, List.getElem_cons_succ, List.setIfInBounds_toArray, List.set_cons_zero, List.set_cons_succ])
  refine wpAnyJ_take (i := 16) (v := ?_) rfl (by kernel_rfl) (by kernel_rfl) (by kernel_rfl) (by kernel_rfl) (fun _ _ _ h => h) (Or.inl ⟨by rfl, ?_⟩) (by assumption) ?_
  rotate_left
  focus ((intro w hSw; (try dsimp only at hSw); go_simp); try with_reducible rfl)
  (try simp only [Act.put, List.getElem_toArray, List.getElem_cons_zero, List.getElem_cons_succ, List.setIfInBounds_toArray, List.set_cons_zero, List.set_cons_succ])
  refine wpAnyJ_take0 (i := 17) (v := ?_) rfl (by kernel_rfl) (by kernel_rfl) (by kernel_rfl) (fun _ _ _ h => h) (Or.inl ⟨by rfl, ?_⟩) ?_
  rotate_left
  focus ((intro w hSw; clear hSw; go_simp); try with_reducible rfl)
  (try simp only [Act.put, List.getElem_toArray, List.getElem_cons_zero, List.getElem_cons_succ, List.setIfInBounds_toArray, List.set_cons_zero, List.set_cons_succ])
  refine wpAnyJ_take0 (i := 18) (v := ?_) rfl (by kernel_rfl) (by kernel_rfl) (by kernel_rfl) (fun _ _ _ h => h) (Or.inl ⟨by rfl, ?_⟩) ?_
  rotate_left
  focus ((intro w hSw; clear hSw; go_simp); try with_reducible rfl)
  (try simp only [Act.put, List.getElem_toArray, List.getElem_cons_zero, List.getElem_cons_succ, List.setIfInBounds_toArray, List.set_cons_zero, List.set_cons_succ])
  refine wpAnyJ_take (i := 19) (v := ?_) rfl (by kernel_rfl) (by kernel_rfl) (by kernel_rfl) (by kernel_rfl) (fun _ _ _ h => h) (Or.inl ⟨by rfl, ?_⟩) (by assumption) ?_
  rotate_left
  focus ((intro w hSw; (try dsimp only at hSw); go_simp); try with_reducible rfl)
  (try simp only [Act.put, List.getElem_toArray, List.getElem_cons_zero, List.getElem_cons_succ, List.setIfInBounds_toArray, List.set_cons_zero, List.set_cons_succ])
  refine wpAnyJ_take0 (i := 20) (v := ?_) rfl (by kernel_rfl) (by kernel_rfl) (by kernel_rfl) (fun _ _ _ h => h) (Or.inl ⟨by rfl, ?_⟩) ?_
  rotate_left
  focus ((intro w hSw; clear hSw; go_simp); try with_reducible rfl)
  (try simp only [Act.put, List.getElem_toArray, List.getElem_cons_zero, List.getElem_cons_succ, List.setIfInBounds_toArray, List.set_cons_zero, List.set_cons_succ])
  refine wpAnyJ_take0 (i := 21) (v := ?_) rfl (by kernel_rfl) (by kernel_rfl) (by kernel_rfl) (fun _ _ _ h => h) (Or.inl ⟨by rfl, ?_⟩) ?_
  rotate_left
  focus ((intro w hSw; clear hSw; go_simp); try with_reducible rfl)
  (try simp only [Act.put, List.getElem_toArray, List.getElem_cons_zero, List.getElem_cons_succ, List.setIfInBounds_toArray, List.set_cons_zero, List.set_cons_succ])
  refine wpAnyJ_take0 (i := 22) (v := ?_) rfl (by kernel_rfl) (by kernel_rfl) (by kernel_rfl) (fun _ _ _ h => h) (Or.inl ⟨by rfl, ?_⟩) ?_
  rotate_left
  focus ((intro w hSw; clear hSw; go_simp); try with_reducible rfl)
  (try simp only [Act.put, List.getElem_toArray, List.getElem_cons_zero, List.getElem_cons_succ, List.setIfInBounds_toArray, List.set_cons_zero, List.set_cons_succ])
  refine wpAnyJ_ready (rs := [23]) (by kernel_rfl) (by simp) ?_
  refine AllReadyJ.cons rfl (fun KK hKK => ?_) AllReadyJ.nil
  go_simp
  go_at_call 48
  refine (HL.out w.drew.drew.drew ⟨rfl, rfl, rfl, rfl⟩).mono ?_
  rintro e u1 ⟨rfl, rfl⟩
  refine hKK.out _ _ (fun _ h => h) ?_
  clear hKK KK
  (try simp only [Act.put, List.getElem_toArray, List.getElem_cons_zero, List.getElem_cons_succ, List.setIfInBounds_toArray, List.set_cons_zero, List.set_cons_succ])
  refine wpAnyJ_take0 (i := 24) (v := ?_) rfl (by kernel_rfl) (by kernel_rfl) (by kernel_rfl) (fun _ _ _ h => h) (Or.inl ⟨by rfl, ?_⟩) ?_
  rotate_left
  focus ((intro w hSw; clear hSw; go_simp); try with_reducible rfl)
  (try simp only [Act.put, List.getElem_toArray, List.getElem_cons_zero, List.getElem_cons_succ, List.setIfInBounds_toArray, List.set_cons_zero, List.set_cons_succ])
  refine wpAnyJ_take0 (i := 25) (v := ?_) rfl (by kernel_rfl) (by kernel_rfl) (by kernel_rfl) (fun _ _ _ h => h) (Or.inl ⟨by rfl, ?_⟩) ?_
  rotate_left
  focus ((intro w hSw; clear hSw; go_simp); try with_reducible rfl)
  (try simp only [Act.put, List.getElem_toArray, List.getElem_cons_zero, List.getElem_cons_succ, List.setIfInBounds_toArray, List.set_cons_zero, List.set_cons_succ])
  refine wpAnyJ_take0 (i := 26) (v := ?_) rfl (by kernel_rfl) (by kernel_rfl) (by kernel_rfl) (fun _ _ _ h => h) (Or.inl ⟨by rfl, ?_⟩) ?_
  rotate_left
  focus ((intro w hSw; clear hSw; go_simp); try with_reducible rfl)
  (try simp only [Act.put, List.getElem_toArray, List.getElem_cons_zero, List.getElem_cons_succ, List.setIfInBounds_toArray, List.set_cons_zero, List.set_cons_succ])
  refine wpAnyJ_done (by kernel_rfl) ?_ _
  refine NoPanic.normal ?_
  go_wp2_with fail
  refine (HH.out w.drew.drew.drew ⟨rfl, rfl, rfl, rfl⟩).mono ?_
  rintro e w' ⟨rfl, hq⟩
  have HQ := Lib.hid hq
  clear hq
  go_wp2_with fail
  exact ⟨rfl, _, results_none rfl _ _ _, rfl, HQ.out⟩
set_option maxRecDepth 100000 in
set_option maxHeartbeats 16000000 in
theorem mend_right0 {w : World} {p tb i j m c3 g3 pk pl pr L lk ll lr ck cl cr : Nat} {ak al ar : Option Addr} {Q : World → Prop} (dn : w.cell? ⟨p, 2, none⟩ = some (.slice (some ⟨g3, 0, none⟩) m c3)) (hi : i < m) (hm : m ≤ 1000)
    (ki : w.cell? ⟨g3, i, none⟩ = some (.pointer (some ⟨pk, 0, none⟩))) (dk : w.cell? ⟨pk, 0, none⟩ = some (.slice ak lk ck))
    (hl : ∀ W, Same4 w W → Calls Try.prog 48 #[.pointer (some ⟨tb, 0, none⟩), .pointer (some ⟨pk, 0, none⟩)] W fun e w' => e = .returned (.int .i64 L) ∧ W = w')
    (hk : lk < L) (hi00 : i = 0) (him : i + 1 < m) (kr : w.cell? ⟨g3, i + 1, none⟩ = some (.pointer (some ⟨pr, 0, none⟩))) (dr : w.cell? ⟨pr, 0, none⟩ = some (.slice ar lr cr)) (hg2 : L < lr)
    (H : ∀ W, Same4 w W → Calls Try.prog 62 #[.pointer (some ⟨p, 0, none⟩), .int .i64 ((i : Int) + 1), .int .i64 i] W fun e w' => e = .returned (.tuple #[]) ∧ Q w') :
    Calls Try.prog 54 #[.pointer (some ⟨tb, 0, none⟩), .pointer (some ⟨p, 0, none⟩), .int .i64 i] w (fun e w' => e = .returned (.tuple #[]) ∧ Q w') := by
  have HL := Lib.hid hl
  have HH := Lib.hid H
  have hi' : (i : Int) < m := by omega
  have hi0 : (0 : Int) ≤ i := by omega
  have hwp : IntKind.i64.wrap ((i : Int) + 1) = (i : Int) + 1 := IntWalk.i64_in _ (by omega)
  have hnn : ((i : Int) + 1).toNat = i + 1 := by omega
  have hi1 : (0 : Int) ≤ (i : Int) + 1 := by omega
  have hk2 : ¬ (L : Int) ≤ lk := by omega
  have hg2' : (L : Int) < lr := by omega
  have hip : ¬ 0 < i := by omega
  have him' : (i : Int) + 1 < m := by omega
  clear him
  clear hi00
  clear hl H
  go_enter Try.func54, Try.ntmps54
  go_wp2_with fail
  refine wp_region_noPanic ?_
  refine wp_region_J (S := fun u : World => u.cell? ⟨pk, 0, none⟩ = some (.slice ak lk ck)) (fun _ => false) (by kernel_rfl) ?_
  have hHeld : (fun u : World => u.cell? ⟨pk, 0, none⟩ = some (.slice ak lk ck)) w.drew := dk
  refine wpAnyJ_take0 (i := 0) (v := ?_) rfl (by kernel_rfl) (by kernel_rfl) (by kernel_rfl) (fun _ _ _ h => h) (Or.inl ⟨by rfl, ?_⟩) ?_
  rotate_left
  focus ((intro w hSw; clear hSw; go_simp); try with_reducible rfl)
  (try simp only [Act.put, List.getElem_toArray, List.getElem_cons_zero, List.getElem_cons_succ, List.setIfInBounds_toArray, List.set_cons_zero, List.set_cons_succ])
  refine wpAnyJ_take0 (i := 1) (v := ?_) rfl (by kernel_rfl) (by kernel_rfl) (by kernel_rfl) (fun _ _ _ h => h) (Or.inl ⟨by rfl, ?_⟩) ?_
  rotate_left
  focus ((intro w hSw; clear hSw; go_simp); try with_reducible rfl)
  (try simp only [Act.put, List.getElem_toArray, List.getElem_cons_zero, List.getElem_cons_succ, List.setIfInBounds_toArray, List.set_cons_zero, List.set_cons_succ])
  refine wpAnyJ_take0 (i := 2) (v := ?_) rfl (by kernel_rfl) (by kernel_rfl) (by kernel_rfl) (fun _ _ _ h => h) (Or.inl ⟨by rfl, ?_⟩) ?_
  rotate_left
  focus ((intro w hSw; clear hSw; go_simp); try with_reducible rfl)
  (try simp only [Act.put, List.getElem_toArray, List.getElem_cons_zero, List.getElem_cons_succ, List.setIfInBounds_toArray, List.set_cons_zero, List.set_cons_succ])
  refine wpAnyJ_take (i := 3) (v := ?_) rfl (by kernel_rfl) (by kernel_rfl) (by kernel_rfl) (by kernel_rfl) (fun _ _ _ h => h) (Or.inl ⟨by rfl, ?_⟩) (by assumption) ?_
  rotate_left
  focus ((intro w hSw; (try dsimp only at hSw); go_simp); try with_reducible rfl)
  (try simp only [Act.put, List.getElem_toArray, List.getElem_cons_zero, List.getElem_cons_succ, List.setIfInBounds_toArray, List.set_cons_zero, List.set_cons_succ])
  refine wpAnyJ_take0 (i := 4) (v := ?_) rfl (by kernel_rfl) (by kernel_rfl) (by kernel_rfl) (fun _ _ _ h => h) (Or.inl ⟨by rfl, ?_⟩) ?_
  rotate_left
  focus ((intro w hSw; clear hSw; go_simp); try with_reducible rfl)
  (try simp only [Act.put, List.getElem_toArray, List.getElem_cons_zero, List.getElem_cons_succ, List.setIfInBounds_toArray, List.set_cons_zero, List.set_cons_succ])
  refine wpAnyJ_take0 (i := 5) (v := ?_) rfl (by kernel_rfl) (by kernel_rfl) (by kernel_rfl) (fun _ _ _ h => h) (Or.inl ⟨by rfl, ?_⟩) ?_
  rotate_left
  focus ((intro w hSw; clear hSw; go_simp); try with_reducible rfl)
  (try simp only [Act.put, List.getElem_toArray, List.getElem_cons_zero, List.getElem_cons_succ, List.setIfInBounds_toArray, List.set_cons_zero, List.set_cons_succ])
  refine wpAnyJ_take0 (i := 6) (v := ?_) rfl (by kernel_rfl) (by kernel_rfl) (by kernel_rfl) (fun _ _ _ h => h) (Or.inl ⟨by rfl, ?_⟩) ?_
  rotate_left
  focus ((intro w hSw; clear hSw; go_simp); try with_reducible rfl)
  (try simp only [Act.put, List.getElem_toArray, List.getElem_cons_zero, List.getElem_cons_succ, List.setIfInBounds_toArray, List.set_cons_zero, List.set_cons_succ])
  refine wpAnyJ_ready (rs := [7]) (by kernel_rfl) (by simp) ?_
  refine AllReadyJ.cons rfl (fun KK hKK => ?_) AllReadyJ.nil
  go_simp
  go_at_call 48
  refine (HL.out w.drew ⟨rfl, rfl, rfl, rfl⟩).mono ?_
  rintro e u1 ⟨rfl, rfl⟩
  refine hKK.out _ _ (fun _ h => h) ?_
  clear hKK KK
  (try simp only [Act.put, List.getElem_toArray, List.getElem_cons_zero, List.getElem_cons_succ, List.setIfInBounds_toArray, List.set_cons_zero, List.set_cons_succ])
  refine wpAnyJ_take0 (i := 8) (v := ?_) rfl (by kernel_rfl) (by kernel_rfl) (by kernel_rfl) (fun _ _ _ h => h) (Or.inl ⟨by rfl, ?_⟩) ?_
  rotate_left
  focus ((intro w hSw; clear hSw; go_simp); try with_reducible rfl)
  (try simp only [Act.put, List.getElem_toArray, List.getElem_cons_zero, List.getElem_cons_succ, List.setIfInBounds_toArray, List.set_cons_zero, List.set_cons_succ])
  refine wpAnyJ_done (by kernel_rfl) ?_ _
  refine NoPanic.normal ?_
  go_wp2_with fail
  refine wp_region_noPanic ?_
  refine wp_region_J (S := fun u : World => u.cell? ⟨p, 2, none⟩ = some (.slice (some ⟨g3, 0, none⟩) m c3)) (fun _ => false) (by kernel_rfl) ?_
  have hHeld : (fun u : World => u.cell? ⟨p, 2, none⟩ = some (.slice (some ⟨g3, 0, none⟩) m c3)) w.drew.drew := dn
  refine wpAnyJ_take0 (i := 0) (v := ?_) rfl (by kernel_rfl) (by kernel_rfl) (by kernel_rfl) (fun _ _ _ h => h) (Or.inl ⟨by rfl, ?_⟩) ?_
  rotate_left
  focus ((intro w hSw; clear hSw; go_simp); try with_reducible rfl)
  (try simp only [Act.put, List.getElem_toArray, List.getElem_cons_zero, List.getElem_cons_succ, List.setIfInBounds_toArray, List.set_cons_zero, List.set_cons_succ])
  refine wpAnyJ_take0 (i := 1) (v := ?_) rfl (by kernel_rfl) (by kernel_rfl) (by kernel_rfl) (fun _ _ _ h => h) (Or.inl ⟨by rfl, ?_⟩) ?_
  rotate_left
  focus ((intro w hSw; clear hSw; go_simp); try with_reducible rfl)
  (try simp only [Act.put, List.getElem_toArray, List.getElem_cons_zero, List.getElem_cons_succ, List.setIfInBounds_toArray, List.set_cons_zero, List.set_cons_succ])
  refine wpAnyJ_take0 (i := 2) (v := ?_) rfl (by kernel_rfl) (by kernel_rfl) (by kernel_rfl) (fun _ _ _ h => h) (Or.inl ⟨by rfl, ?_⟩) ?_
  rotate_left
  focus ((intro w hSw; clear hSw; go_simp); try with_reducible rfl)
  (try simp only [Act.put, List.getElem_toArray, List.getElem_cons_zero, List.getElem_cons_succ, List.setIfInBounds_toArray, List.set_cons_zero, List.set_cons_succ])
  refine wpAnyJ_take0 (i := 3) (v := undef) rfl (by kernel_rfl) (by kernel_rfl) (by kernel_rfl) (fun _ _ _ h => h) (Or.inr ⟨by rfl, rfl⟩) ?_
  (try simp only [Act.put, List.getElem_toArray, List.getElem_cons_zero, List.getElem_cons_succ, List.setIfInBounds_toArray, List.set_cons_zero, List.set_cons_succ])
  refine wpAnyJ_take0 (i := 4) (v := undef) rfl (by kernel_rfl) (by kernel_rfl) (by kernel_rfl) (fun _ _ _ h => h) (Or.inr ⟨by rfl, rfl⟩) ?_
  (try simp only [Act.put, List.getElem_toArray, List.getElem_cons_zero, List.getElem_cons_succ, List.setIfInBounds_toArray, List.set_cons_zero, List.set_cons_succ])
  refine wpAnyJ_take0 (i := 5) (v := undef) rfl (by kernel_rfl) (by kernel_rfl) (by kernel_rfl) (fun _ _ _ h => h) (Or.inr ⟨by rfl, rfl⟩) ?_
  (try simp only [Act.put, List.getElem_toArray, List.getElem_cons_zero, List.getElem_cons_succ, List.setIfInBounds_toArray, List.set_cons_zero, List.set_cons_succ])
  refine wpAnyJ_take0 (i := 6) (v := undef) rfl (by kernel_rfl) (by kernel_rfl) (by kernel_rfl) (fun _ _ _ h => h) (Or.inr ⟨by rfl, rfl⟩) ?_
  (try simp only [Act.put, List.getElem_toArray, List.getElem_cons_zero, List.getElem_cons_succ, List.setIfInBounds_toArray, List.set_cons_zero, List.set_cons_succ])
  refine wpAnyJ_take0 (i := 7) (v := undef) rfl (by kernel_rfl) (by kernel_rfl) (by kernel_rfl) (fun _ _ _ h => h) (Or.inr ⟨by rfl, rfl⟩) ?_
  (try simp only [Act.put, List.getElem_toArray, List.getElem_cons_zero, List.getElem_cons_succ, List.setIfInBounds_toArray, List.set_cons_zero, List.set_cons_succ])
  refine wpAnyJ_take0 (i := 8) (v := undef) rfl (by kernel_rfl) (by kernel_rfl) (by kernel_rfl) (fun _ _ _ h => h) (Or.inr ⟨by rfl, rfl⟩) ?_
  (try simp only [Act.put, List.getElem_toArray, List.getElem_cons_zero, List.getElem_cons_succ, List.setIfInBounds_toArray, List.set_cons_zero, List.set_cons_succ])
  refine wpAnyJ_take0 (i := 9) (v := undef) rfl (by kernel_rfl) (by kernel_rfl) (by kernel_rfl) (fun _ _ _ h => h) (Or.inr ⟨by rfl, rfl⟩) ?_
  (try simp only [Act.put, List.getElem_toArray, List.getElem_cons_zero, List.getElem_cons_succ, List.setIfInBounds_toArray, List.set_cons_zero, List.set_cons_succ])
  refine wpAnyJ_take0 (i := 10) (v := undef) rfl (by kernel_rfl) (by kernel_rfl) (by kernel_rfl) (fun _ _ _ h => h) (Or.inr ⟨by rfl, rfl⟩) ?_
  (try simp only [Act.put, List.getElem_toArray, List.getElem_cons_zero, List.getElem_cons_succ, List.setIfInBounds_toArray, List.set_cons_zero, List.set_cons_succ])
  refine wpAnyJ_take0 (i := 11) (v := undef) rfl (by kernel_rfl) (by kernel_rfl) (by kernel_rfl) (fun _ _ _ h => h) (Or.inr ⟨by rfl, rfl⟩) ?_
  (try simp only [Act.put, List.getElem_toArray, List.getElem_cons_zero, List.getElem_cons_succ, List.setIfInBounds_toArray, List.set_cons_zero, List.set_cons_succ])
  refine wpAnyJ_take0 (i := 12) (v := undef) rfl (by kernel_rfl) (by kernel_rfl) (by kernel_rfl) (fun _ _ _ h => h) (Or.inr ⟨by rfl, rfl⟩) ?_
  (try simp only [Act.put, List.getElem_toArray, List.getElem_cons_zero, List.getElem_cons_succ, List.setIfInBounds_toArray, List.set_cons_zero, List.set_cons_succ])
  refine wpAnyJ_take0 (i := 13) (v := undef) rfl (by kernel_rfl) (by kernel_rfl) (by kernel_rfl) (fun _ _ _ h => h) (Or.inr ⟨by rfl, rfl⟩) ?_
  (try simp only [Act.put, List.getElem_toArray, List.getElem_cons_zero, List.getElem_cons_succ, List.setIfInBounds_toArray, List.set_cons_zero, List.set_cons_succ])
  refine wpAnyJ_take0 (i := 14) (v := undef) rfl (by kernel_rfl) (by kernel_rfl) (by kernel_rfl) (fun _ _ _ h => h) (Or.inr ⟨by rfl, rfl⟩) ?_
  (try simp only [Act.put, List.getElem_toArray, List.getElem_cons_zero, List.getElem_cons_succ, List.setIfInBounds_toArray, List.set_cons_zero, List.set_cons_succ])
  refine wpAnyJ_take0 (i := 15) (v := undef) rfl (by kernel_rfl) (by kernel_rfl) (by kernel_rfl) (fun _ _ _ h => h) (Or.inr ⟨by rfl, rfl⟩) ?_
  (try simp only [Act.put, List.getElem_toArray, List.getElem_cons_zero, List.getElem_cons_succ, List.setIfInBounds_toArray, List.set_cons_zero, List.set_cons_succ])
  refine wpAnyJ_take0 (i := 16) (v := undef) rfl (by kernel_rfl) (by kernel_rfl) (by kernel_rfl) (fun _ _ _ h => h) (Or.inr ⟨by rfl, rfl⟩) ?_
  (try simp only [Act.put, List.getElem_toArray, List.getElem_cons_zero, List.getElem_cons_succ, List.setIfInBounds_toArray, List.set_cons_zero, List.set_cons_succ])
  refine wpAnyJ_take0 (i := 17) (v := undef) rfl (by kernel_rfl) (by kernel_rfl) (by kernel_rfl) (fun _ _ _ h => h) (Or.inr ⟨by rfl, rfl⟩) ?_
  (try simp only [Act.put, List.getElem_toArray, List.getElem_cons_zero, List.getElem_cons_succ, List.setIfInBounds_toArray, List.set_cons_zero, List.set_cons_succ])
  refine wpAnyJ_take0 (i := 18) (v := undef) rfl (by kernel_rfl) (by kernel_rfl) (by kernel_rfl) (fun _ _ _ h => h) (Or.inr ⟨by rfl, rfl⟩) ?_
  (try simp only [Act.put, List.getElem_toArray, List.getElem_cons_zero, List.getElem_cons_succ, List.setIfInBounds_toArray, List.set_cons_zero, List.set_cons_succ])
  refine wpAnyJ_take0 (i := 19) (v := ?_) rfl (by kernel_rfl) (by kernel_rfl) (by kernel_rfl) (fun _ _ _ h => h) (Or.inl ⟨by rfl, ?_⟩) ?_
  rotate_left
  focus ((intro w hSw; clear hSw; go_simp); try with_reducible rfl)
  (try simp only [Act.put, List.getElem_toArray, List.getElem_cons_zero, List.getElem_cons_succ, List.setIfInBounds_toArray, List.set_cons_zero, List.set_cons_succ])
  refine wpAnyJ_take0 (i := 20) (v := ?_) rfl (by kernel_rfl) (by kernel_rfl) (by kernel_rfl) (fun _ _ _ h => h) (Or.inl ⟨by rfl, ?_⟩) ?_
  rotate_left
  focus ((intro w hSw; clear hSw; go_simp); try with_reducible rfl)
  (try simp only [Act.put, List.getElem_toArray, List.getElem_cons_zero, List.getElem_cons_succ, List.setIfInBounds_toArray, List.set_cons_zero, List.set_cons_succ])
  refine wpAnyJ_done (by kernel_rfl) ?_ _
  refine NoPanic.normal ?_
  go_wp2_with fail
  refine wp_region_noPanic ?_
  refine wp_region_J (S := fun u : World => u.cell? ⟨p, 2, none⟩ = some (.slice (some ⟨g3, 0, none⟩) m c3) ∧ u.cell? ⟨g3, i + 1, none⟩ = some (.pointer (some ⟨pr, 0, none⟩)) ∧ u.cell? ⟨pr, 0, none⟩ = some (.slice ar lr cr)) (fun _ => false) (by kernel_rfl) ?_
  have hHeld : (fun u : World => u.cell? ⟨p, 2, none⟩ = some (.slice (some ⟨g3, 0, none⟩) m c3) ∧ u.cell? ⟨g3, i + 1, none⟩ = some (.pointer (some ⟨pr, 0, none⟩)) ∧ u.cell? ⟨pr, 0, none⟩ = some (.slice ar lr cr)) w.drew.drew.drew := ⟨dn, kr, dr⟩
  refine wpAnyJ_take0 (i := 0) (v := ?_) rfl (by kernel_rfl) (by kernel_rfl) (by kernel_rfl) (fun _ _ _ h => h) (Or.inl ⟨by rfl, ?_⟩) ?_
  rotate_left
  focus ((intro w hSw; clear hSw; go_simp); try with_reducible rfl)
  (try simp only [Act.put, List.getElem_toArray, List.getElem_cons_zero, List.getElem_cons_succ, List.setIfInBounds_toArray, List.set_cons_zero, List.set_cons_succ])
  refine wpAnyJ_take0 (i := 1) (v := ?_) rfl (by kernel_rfl) (by kernel_rfl) (by kernel_rfl) (fun _ _ _ h => h) (Or.inl ⟨by rfl, ?_⟩) ?_
  rotate_left
  focus ((intro w hSw; clear hSw; go_simp); try with_reducible rfl)
  (try simp only [Act.put, List.getElem_toArray, List.getElem_cons_zero, List.getElem_cons_succ, List.setIfInBounds_toArray, List.set_cons_zero, List.set_cons_succ])
  refine wpAnyJ_take0 (i := 2) (v := ?_) rfl (by kernel_rfl) (by kernel_rfl) (by kernel_rfl) (fun _ _ _ h => h) (Or.inl ⟨by rfl, ?_⟩) ?_
  rotate_left
  focus ((intro w hSw; clear hSw; go_simp); try with_reducible rfl)
  (try simp only [Act.put, List.getElem_toArray, List.getElem_cons_zero, List.getElem_cons_succ, List.setIfInBounds_toArray, List.set_cons_zero, List.set_cons_succ])
  refine wpAnyJ_take0 (i := 3) (v := ?_) rfl (by kernel_rfl) (by kernel_rfl) (by kernel_rfl) (fun _ _ _ h => h) (Or.inl ⟨by rfl, ?_⟩) ?_
  rotate_left
  focus ((intro w hSw; clear hSw; go_simp); try with_reducible rfl)
  (try simp only [Act.put, List.getElem_toArray, List.getElem_cons_zero, List.getElem_cons_succ, List.setIfInBounds_toArray, List.set_cons_zero, List.set_cons_succ])
  refine wpAnyJ_take0 (i := 4) (v := ?_) rfl (by kernel_rfl) (by kernel_rfl) (by kernel_rfl) (fun _ _ _ h => h) (Or.inl ⟨by rfl, ?_⟩) ?_
  rotate_left
  focus ((intro w hSw; clear hSw; go_simp); try with_reducible rfl)
  (try simp only [Act.put, List.getElem_toArray, List.getElem_cons_zero, List.getElem_cons_succ, List.setIfInBounds_toArray, List.set_cons_zero, List.set_cons_succ])
  refine wpAnyJ_take (i := 5) (v := ?_) rfl (by kernel_rfl) (by kernel_rfl) (by kernel_rfl) (by kernel_rfl) (fun _ _ _ h => h) (Or.inl ⟨by rfl, ?_⟩) (by assumption) ?_
  rotate_left
  focus ((intro w hSw; (try dsimp only at hSw); go_simp); try with_reducible rfl)
  (try simp only [Act.put, List.getElem_toArray, List.getElem_cons_zero, List.getElem_cons_succ, List.setIfInBounds_toArray, List.set_cons_zero, List.set_cons_succ])
  refine wpAnyJ_take0 (i := 6) (v := ?_) rfl (by kernel_rfl) (by kernel_rfl) (by kernel_rfl) (fun _ _ _ h => h) (Or.inl ⟨by rfl, ?_⟩) ?_
  rotate_left
  focus ((intro w hSw; clear hSw; go_simp); try with_reducible rfl)
  (try simp only [Act.put, List.getElem_toArray, List.getElem_cons_zero, List.getElem_cons_succ, List.setIfInBounds_toArray, List.set_cons_zero, List.set_cons_succ])
  refine wpAnyJ_take0 (i := 7) (v := ?_) rfl (by kernel_rfl) (by kernel_rfl) (by kernel_rfl) (fun _ _ _ h => h) (Or.inl ⟨by rfl, ?_⟩) ?_
  rotate_left
  focus ((intro w hSw; clear hSw; go_simp); try with_reducible rfl)
  (try simp only [Act.put, List.getElem_toArray, List.getElem_cons_zero, List.getElem_cons_succ, List.setIfInBounds_toArray, List.set_cons_zero, List.set_cons_succ])
  refine wpAnyJ_take0 (i := 8) (v := ?_) rfl (by kernel_rfl) (by kernel_rfl) (by kernel_rfl) (fun _ _ _ h => h) (Or.inl ⟨by rfl, ?_⟩) ?_
  rotate_left
  focus ((intro w hSw; clear hSw; go_simp); try with_reducible rfl)
  (try simp only [Act.put, List.getElem_toArray, List.getElem_cons_zero, List.getElem_cons_succ, List.setIfInBounds_toArray, List.set_cons_zero, List.set_cons_succ])
  refine wpAnyJ_take0 (i := 9) (v := ?_) rfl (by kernel_rfl) (by kernel_rfl) (by kernel_rfl) (fun _ _ _ h => h) (Or.inl ⟨by rfl, ?_⟩) ?_
  rotate_left
  focus ((intro w hSw; clear hSw; go_simp); try with_reducible rfl)
  (try simp only [Act.put, List.getElem_toArray, List.getElem_cons_zero, List.getElem_cons_succ, List.setIfInBounds_toArray, List.set_cons_zero, List.set_cons_succ])
  refine wpAnyJ_take0 (i := 10) (v := ?_) rfl (by kernel_rfl) (by kernel_rfl) (by kernel_rfl) (fun _ _ _ h => h) (Or.inl ⟨by rfl, ?_⟩) ?_
  rotate_left
  focus ((intro w hSw; clear hSw; go_simp); try with_reducible rfl)
  (try simp only [Act.put, List.getElem_toArray, List.getElem_cons_zero, List.getElem_cons_succ, List.setIfInBounds_toArray, List.set_cons_zero, List.set_cons_succ])
  refine wpAnyJ_take0 (i := 11) (v := ?_) rfl (by kernel_rfl) (by kernel_rfl) (by kernel_rfl) (fun _ _ _ h => h) (Or.inl ⟨by rfl, ?_⟩) ?_
  rotate_left
  focus ((intro w hSw; clear hSw; go_simp); try with_reducible rfl)
  (try simp only [Act.put, List.getElem_toArray, List.getElem_cons_zero, List.getElem_cons_succ, List.setIfInBounds_toArray, List.set_cons_zero, List.set_cons_succ])
  refine wpAnyJ_take (i := 12) (v := ?_) rfl (by kernel_rfl) (by kernel_rfl) (by kernel_rfl) (by kernel_rfl) (fun _ _ _ h => h) (Or.inl ⟨by rfl, ?_⟩) (by assumption) ?_
  rotate_left
  focus ((intro w hSw; (try dsimp only at hSw); go_simp); try with_reducible rfl)
  (try simp only [Act.put, List.getElem_toArray, List.getElem_cons_zero, List.getElem_cons_succ, List.setIfInBounds_toArray, List.set_cons_zero, List.set_cons_succ])
  refine wpAnyJ_take0 (i := 13) (v := ?_) rfl (by kernel_rfl) (by kernel_rfl) (by kernel_rfl) (fun _ _ _ h => h) (Or.inl ⟨by rfl, ?_⟩) ?_
  rotate_left
  focus ((intro w hSw; clear hSw; go_simp); try with_reducible rfl)
  (try simp only [Act.put, List.getElem_toArray, List.getElem_cons_zero, List.getElem_cons_succ, List.setIfInBounds_toArray, List.set_cons_zero, List.set_cons_succ])
  refine wpAnyJ_take0 (i := 14) (v := ?_) rfl (by kernel_rfl) (by kernel_rfl) (by kernel_rfl) (fun _ _ _ h => h) (Or.inl ⟨by rfl, ?_⟩) ?_
  rotate_left
  focus ((intro w hSw; clear hSw; go_simp); try with_reducible rfl)
  (try simp only [Act.put, List.getElem_toArray, List.getElem_cons_zero, List.getElem_cons_succ, List.setIfInBounds_toArray, List.set_cons_zero, List.set_cons_succ])
  refine wpAnyJ_take0 (i := 15) (v := ?_) rfl (by kernel_rfl) (by kernel_rfl) (by kernel_rfl) (fun _ _ _ h => h) (Or.inl ⟨by rfl, ?_⟩) ?_
  rotate_left
  focus ((intro w hSw; clear hSw; go_simp); try with_reducible rfl)
  (try simp only [Act.put, List.getElem_toArray, List.getElem_cons_zero, List.getElem_cons_succ, List.setIfInBounds_toArray, List.set_cons_zero, List.set_cons_succ])
  refine wpAnyJ_take (i := 16) (v := ?_) rfl (by kernel_rfl) (by kernel_rfl) (by kernel_rfl) (by kernel_rfl) (fun _ _ _ h => h) (Or.inl ⟨by rfl, ?_⟩) (by assumption) ?_
  rotate_left
  focus ((intro w hSw; (try dsimp only at hSw); go_simp); try with_reducible rfl)
  (try simp only [Act.put, List.getElem_toArray, List.getElem_cons_zero, List.getElem_cons_succ, List.setIfInBounds_toArray, List.set_cons_zero, List.set_cons_succ])
  refine wpAnyJ_take0 (i := 17) (v := ?_) rfl (by kernel_rfl) (by kernel_rfl) (by kernel_rfl) (fun _ _ _ h => h) (Or.inl ⟨by rfl, ?_⟩) ?_
  rotate_left
  focus ((intro w hSw; clear hSw; go_simp); try with_reducible rfl)
  (try simp only [Act.put, List.getElem_toArray, List.getElem_cons_zero, List.getElem_cons_succ, List.setIfInBounds_toArray, List.set_cons_zero, List.set_cons_succ])
  refine wpAnyJ_take0 (i := 18) (v := ?_) rfl (by kernel_rfl) (by kernel_rfl) (by kernel_rfl) (fun _ _ _ h => h) (Or.inl ⟨by rfl, ?_⟩) ?_
  rotate_left
  focus ((intro w hSw; clear hSw; go_simp); try with_reducible rfl)
  (try simp only [Act.put, List.getElem_toArray, List.getElem_cons_zero, List.getElem_cons_succ, List.setIfInBounds_toArray, List.set_cons_zero, List.set_cons_succ])
  refine wpAnyJ_take (i := 19) (v := ?_) rfl (by kernel_rfl) (by kernel_rfl) (by kernel_rfl) (by kernel_rfl) (fun _ _ _ h => h) (Or.inl ⟨by rfl, ?_⟩) (by assumption) ?_
  rotate_left
  focus ((intro w hSw; (try dsimp only at hSw); go_simp); try with_reducible rfl)
  (try simp only [Act.put, List.getElem_toArray, List.getElem_cons_zero, List.getElem_cons_succ, List.setIfInBounds_toArray, List.set_cons_zero, List.set_cons_succ])
  refine wpAnyJ_take0 (i := 20) (v := ?_) rfl (by kernel_rfl) (by kernel_rfl) (by kernel_rfl) (fun _ _ _ h => h) (Or.inl ⟨by rfl, ?_⟩) ?_
  rotate_left
  focus ((intro w hSw; clear hSw; go_simp); try with_reducible rfl)
  (try simp only [Act.put, List.getElem_toArray, List.getElem_cons_zero, List.getElem_cons_succ, List.setIfInBounds_toArray, List.set_cons_zero, List.set_cons_succ])
  refine wpAnyJ_take0 (i := 21) (v := ?_) rfl (by kernel_rfl) (by kernel_rfl) (by kernel_rfl) (fun _ _ _ h => h) (Or.inl ⟨by rfl, ?_⟩) ?_
  rotate_left
  focus ((intro w hSw; clear hSw; go_simp); try with_reducible rfl)
  (try simp only [Act.put, List.getElem_toArray, List.getElem_cons_zero, List.getElem_cons_succ, List.setIfInBounds_toArray, List.set_cons_zero, List.set_cons_succ])
  refine wpAnyJ_take0 (i := 22) (v := ?_) rfl (by kernel_rfl) (by kernel_rfl) (by kernel_rfl) (fun _ _ _ h => h) (Or.inl ⟨by rfl, ?_⟩) ?_
  rotate_left
  focus ((intro w hSw; clear hSw; go_simp); try with_reducible rfl)
  (try simp only [Act.put, List.getElem_toArray, List.getElem_cons_zero, List.getElem_cons_succ, List.setIfInBounds_toArray, List.set_cons_zero, List.set_cons_succ])
  refine wpAnyJ_ready (rs := [23]) (by kernel_rfl) (by simp) ?_
  refine AllReadyJ.cons rfl (fun KK hKK => ?_) AllReadyJ.nil
  go_simp
  go_at_call 48
  refine (HL.out w.drew.drew.drew ⟨rfl, rfl, rfl, rfl⟩).mono ?_
  rintro e u1 ⟨rfl, rfl⟩
  refine hKK.out _ _ (fun _ h => h) ?_
  clear hKK KK
  (try simp only [Act.put, List.getElem_toArray, List.getElem_cons_zero, List.getElem_cons_succ, List.setIfInBounds_toArray, List.set_cons_zero, List.set_cons_succ])
  refine wpAnyJ_take0 (i := 24) (v := ?_) rfl (by kernel_rfl) (by kernel_rfl) (by kernel_rfl) (fun _ _ _ h => h) (Or.inl ⟨by rfl, ?_⟩) ?_
  rotate_left
  focus ((intro w hSw; clear hSw; go_simp); try with_reducible rfl)
  (try simp only [Act.put, List.getElem_toArray, List.getElem_cons_zero, List.getElem_cons_succ, List.setIfInBounds_toArray, List.set_cons_zero, List.set_cons_succ])
  refine wpAnyJ_take0 (i := 25) (v := ?_) rfl (by kernel_rfl) (by kernel_rfl) (by kernel_rfl) (fun _ _ _ h => h) (Or.inl ⟨by rfl, ?_⟩) ?_
  rotate_left
  focus ((intro w hSw; clear hSw; go_simp); try with_reducible rfl)
  (try simp only [Act.put, List.getElem_toArray, List.getElem_cons_zero, List.getElem_cons_succ, List.setIfInBounds_toArray, List.set_cons_zero, List.set_cons_succ])
  refine wpAnyJ_take0 (i := 26) (v := ?_) rfl (by kernel_rfl) (by kernel_rfl) (by kernel_rfl) (fun _ _ _ h => h) (Or.inl ⟨by rfl, ?_⟩) ?_
  rotate_left
  focus ((intro w hSw; clear hSw; go_simp); try with_reducible rfl)
  (try simp only [Act.put, List.getElem_toArray, List.getElem_cons_zero, List.getElem_cons_succ, List.setIfInBounds_toArray, List.set_cons_zero, List.set_cons_succ])
  refine wpAnyJ_done (by kernel_rfl) ?_ _
  refine NoPanic.normal ?_
  go_wp2_with fail
  refine (HH.out w.drew.drew.drew ⟨rfl, rfl, rfl, rfl⟩).mono ?_
  rintro e w' ⟨rfl, hq⟩
  have HQ := Lib.hid hq
  clear hq
  go_wp2_with fail
  exact ⟨rfl, _, results_none rfl _ _ _, rfl, HQ.out⟩
set_option maxRecDepth 100000 in
set_option maxHeartbeats 16000000 in
theorem mend_join1 {w : World} {p tb i j m c3 g3 pk pl pr L lk ll lr ck cl cr : Nat} {ak al ar : Option Addr} {Q : World → Prop} (dn : w.cell? ⟨p, 2, none⟩ = some (.slice (some ⟨g3, 0, none⟩) m c3)) (hi : i < m) (hm : m ≤ 1000)
    (ki : w.cell? ⟨g3, i, none⟩ = some (.pointer (some ⟨pk, 0, none⟩))) (dk : w.cell? ⟨pk, 0, none⟩ = some (.slice ak lk ck))
    (hl : ∀ W, Same4 w W → Calls Try.prog 48 #[.pointer (some ⟨tb, 0, none⟩), .pointer (some ⟨pk, 0, none⟩)] W fun e w' => e = .returned (.int .i64 L) ∧ W = w')
    (hk : lk < L) (hij : i = j + 1) (kl : w.cell? ⟨g3, j, none⟩ = some (.pointer (some ⟨pl, 0, none⟩))) (dl : w.cell? ⟨pl, 0, none⟩ = some (.slice al ll cl)) (hg : ll ≤ L) (him : i + 1 < m) (kr : w.cell? ⟨g3, i + 1, none⟩ = some (.pointer (some ⟨pr, 0, none⟩))) (dr : w.cell? ⟨pr, 0, none⟩ = some (.slice ar lr cr)) (hg2 : lr ≤ L)
    (H : ∀ W, Same4 w W → Calls Try.prog 63 #[.pointer (some ⟨p, 0, none⟩), .int .i64 j] W fun e w' => e = .returned (.tuple #[]) ∧ Q w') :
    Calls Try.prog 54 #[.pointer (some ⟨tb, 0, none⟩), .pointer (some ⟨p, 0, none⟩), .int .i64 i] w (fun e w' => e = .returned (.tuple #[]) ∧ Q w') := by
  have HL := Lib.hid hl
  have HH := Lib.hid H
  have hi' : (i : Int) < m := by omega
  have hi0 : (0 : Int) ≤ i := by omega
  have hwp : IntKind.i64.wrap ((i : Int) + 1) = (i : Int) + 1 := IntWalk.i64_in _ (by omega)
  have hnn : ((i : Int) + 1).toNat = i + 1 := by omega
  have hi1 : (0 : Int) ≤ (i : Int) + 1 := by omega
  have hk2 : ¬ (L : Int) ≤ lk := by omega
  have hg' : ¬ (L : Int) < ll := by omega
  have hg2' : ¬ (L : Int) < lr := by omega
  have hip : 0 < i := by omega
  have hj0 : (0 : Int) ≤ j := by omega
  have hjm : (j : Int) < m := by omega
  have hwm : IntKind.i64.wrap ((i : Int) - 1) = (j : Int) := by rw [IntWalk.i64_in _ (by omega)]; omega
  clear hij
  have him' : (i : Int) + 1 < m := by omega
  clear him
  clear hl H
  go_enter Try.func54, Try.ntmps54
  go_wp2_with fail
  refine wp_region_noPanic ?_
  refine wp_region_J (S := fun u : World => u.cell? ⟨pk, 0, none⟩ = some (.slice ak lk ck)) (fun _ => false) (by kernel_rfl) ?_
  have hHeld : (fun u : World => u.cell? ⟨pk, 0, none⟩ = some (.slice ak lk ck)) w.drew := dk
  refine wpAnyJ_take0 (i := 0) (v := ?_) rfl (by kernel_rfl) (by kernel_rfl) (by kernel_rfl) (fun _ _ _ h => h) (Or.inl ⟨by rfl, ?_⟩) ?_
  rotate_left
  focus ((intro w hSw; clear hSw; go_simp); try with_reducible rfl)
  (try simp only [Act.put, List.getElem_toArray, List.getElem_cons_zero, List.getElem_cons_succ, List.setIfInBounds_toArray, List.set_cons_zero, List.set_cons_succ])
  refine wpAnyJ_take0 (i := 1) (v := ?_) rfl (by kernel_rfl) (by kernel_rfl) (by kernel_rfl) (fun _ _ _ h => h) (Or.inl ⟨by rfl, ?_⟩) ?_
  rotate_left
  focus ((intro w hSw; clear hSw; go_simp); try with_reducible rfl)
  (try simp only [Act.put, List.getElem_toArray, List.getElem_cons_zero, List.getElem_cons_succ, List.setIfInBounds_toArray, List.set_cons_zero, List.set_cons_succ])
  refine wpAnyJ_take0 (i := 2) (v := ?_) rfl (by kernel_rfl) (by kernel_rfl) (by kernel_rfl) (fun _ _ _ h => h) (Or.inl ⟨by rfl, ?_⟩) ?_
  rotate_left
  focus ((intro w hSw; clear hSw; go_simp); try with_reducible rfl)
  (try simp only [Act.put, List.getElem_toArray, List.getElem_cons_zero, List.getElem_cons_succ, List.setIfInBounds_toArray, List.set_cons_zero, List.set_cons_succ])
  refine wpAnyJ_take (i := 3) (v := ?_) rfl (by kernel_rfl) (by kernel_rfl) (by kernel_rfl) (by kernel_rfl) (fun _ _ _ h => h) (Or.inl ⟨by rfl, ?_⟩) (by assumption) ?_
  rotate_left
  focus ((intro w hSw; (try dsimp only at hSw); go_simp); try with_reducible rfl)
  (try simp only [Act.put, List.getElem_toArray, List.getElem_cons_zero, List.getElem_cons_succ, List.setIfInBounds_toArray, List.set_cons_zero, List.set_cons_succ])
  refine wpAnyJ_take0 (i := 4) (v := ?_) rfl (by kernel_rfl) (by kernel_rfl) (by kernel_rfl) (fun _ _ _ h => h) (Or.inl ⟨by rfl, ?_⟩) ?_
  rotate_left
  focus ((intro w hSw; clear hSw; go_simp); try with_reducible rfl)
  (try simp only [Act.put, List.getElem_toArray, List.getElem_cons_zero, List.getElem_cons_succ, List.setIfInBounds_toArray, List.set_cons_zero, List.set_cons_succ])
  refine wpAnyJ_take0 (i := 5) (v := ?_) rfl (by kernel_rfl) (by kernel_rfl) (by kernel_rfl) (fun _ _ _ h => h) (Or.inl ⟨by rfl, ?_⟩) ?_
  rotate_left
  focus ((intro w hSw; clear hSw; go_simp); try with_reducible rfl)
  (try simp only [Act.put, List.getElem_toArray, List.getElem_cons_zero, List.getElem_cons_succ, List.setIfInBounds_toArray, List.set_cons_zero, List.set_cons_succ])
  refine wpAnyJ_take0 (i := 6) (v := ?_) rfl (by kernel_rfl) (by kernel_rfl) (by kernel_rfl) (fun _ _ _ h => h) (Or.inl ⟨by rfl, ?_⟩) ?_
  rotate_left
  focus ((intro w hSw; clear hSw; go_simp); try with_reducible rfl)
  (try simp only [Act.put, List.getElem_toArray, List.getElem_cons_zero, List.getElem_cons_succ, List.setIfInBounds_toArray, List.set_cons_zero, List.set_cons_succ])
  refine wpAnyJ_ready (rs := [7]) (by kernel_rfl) (by simp) ?_
  refine AllReadyJ.cons rfl (fun KK hKK => ?_) AllReadyJ.nil
  go_simp
  go_at_call 48
  refine (HL.out w.drew ⟨rfl, rfl, rfl, rfl⟩).mono ?_
  rintro e u1 ⟨rfl, rfl⟩
  refine hKK.out _ _ (fun _ h => h) ?_
  clear hKK KK
  (try simp only [Act.put, List.getElem_toArray, List.getElem_cons_zero, List.getElem_cons_succ, List.setIfInBounds_toArray, List.set_cons_zero, List.set_cons_succ])
  refine wpAnyJ_take0 (i := 8) (v := ?_) rfl (by kernel_rfl) (by kernel_rfl) (by kernel_rfl) (fun _ _ _ h => h) (Or.inl ⟨by rfl, ?_⟩) ?_
  rotate_left
  focus ((intro w hSw; clear hSw; go_simp); try with_reducible rfl)
  (try simp only [Act.put, List.getElem_toArray, List.getElem_cons_zero, List.getElem_cons_succ, List.setIfInBounds_toArray, List.set_cons_zero, List.set_cons_succ])
  refine wpAnyJ_done (by kernel_rfl) ?_ _
  refine NoPanic.normal ?_
  go_wp2_with fail
  refine wp_region_noPanic ?_
  refine wp_region_J (S := fun u : World => u.cell? ⟨p, 2, none⟩ = some (.slice (some ⟨g3, 0, none⟩) m c3) ∧ u.cell? ⟨g3, j, none⟩ = some (.pointer (some ⟨pl, 0, none⟩)) ∧ u.cell? ⟨pl, 0, none⟩ = some (.slice al ll cl)) (fun _ => false) (by kernel_rfl) ?_
  have hHeld : (fun u : World => u.cell? ⟨p, 2, none⟩ = some (.slice (some ⟨g3, 0, none⟩) m c3) ∧ u.cell? ⟨g3, j, none⟩ = some (.pointer (some ⟨pl, 0, none⟩)) ∧ u.cell? ⟨pl, 0, none⟩ = some (.slice al ll cl)) w.drew.drew := ⟨dn, kl, dl⟩
  refine wpAnyJ_take0 (i := 0) (v := ?_) rfl (by kernel_rfl) (by kernel_rfl) (by kernel_rfl) (fun _ _ _ h => h) (Or.inl ⟨by rfl, ?_⟩) ?_
  rotate_left
  focus ((intro w hSw; clear hSw; go_simp); try with_reducible rfl)
  (try simp only [Act.put, List.getElem_toArray, List.getElem_cons_zero, List.getElem_cons_succ, List.setIfInBounds_toArray, List.set_cons_zero, List.set_cons_succ])
  refine wpAnyJ_take0 (i := 1) (v := ?_) rfl (by kernel_rfl) (by kernel_rfl) (by kernel_rfl) (fun _ _ _ h => h) (Or.inl ⟨by rfl, ?_⟩) ?_
  rotate_left
  focus ((intro w hSw; clear hSw; go_simp); try with_reducible rfl)
  (try simp only [Act.put, List.getElem_toArray, List.getElem_cons_zero, List.getElem_cons_succ, List.setIfInBounds_toArray, List.set_cons_zero, List.set_cons_succ])
  refine wpAnyJ_take0 (i := 2) (v := ?_) rfl (by kernel_rfl) (by kernel_rfl) (by kernel_rfl) (fun _ _ _ h => h) (Or.inl ⟨by rfl, ?_⟩) ?_
  rotate_left
  focus ((intro w hSw; clear hSw; go_simp); try with_reducible rfl)
  (try simp only [Act.put, List.getElem_toArray, List.getElem_cons_zero, List.getElem_cons_succ, List.setIfInBounds_toArray, List.set_cons_zero, List.set_cons_succ])
  refine wpAnyJ_take0 (i := 3) (v := ?_) rfl (by kernel_rfl) (by kernel_rfl) (by kernel_rfl) (fun _ _ _ h => h) (Or.inl ⟨by rfl, ?_⟩) ?_
  rotate_left
  focus ((intro w hSw; clear hSw; go_simp); try with_reducible rfl)
  (try simp only [Act.put, List.getElem_toArray, List.getElem_cons_zero, List.getElem_cons_succ, List.setIfInBounds_toArray, List.set_cons_zero, List.set_cons_succ])
  refine wpAnyJ_take0 (i := 4) (v := ?_) rfl (by kernel_rfl) (by kernel_rfl) (by kernel_rfl) (fun _ _ _ h => h) (Or.inl ⟨by rfl, ?_⟩) ?_
  rotate_left
  focus ((intro w hSw; clear hSw; go_simp); try with_reducible rfl)
  (try simp only [Act.put, List.getElem_toArray, List.getElem_cons_zero, List.getElem_cons_succ, List.setIfInBounds_toArray, List.set_cons_zero, List.set_cons_succ])
  refine wpAnyJ_take0 (i := 5) (v := ?_) rfl (by kernel_rfl) (by kernel_rfl) (by kernel_rfl) (fun _ _ _ h => h) (Or.inl ⟨by rfl, ?_⟩) ?_
  rotate_left
  focus ((intro w hSw; clear hSw; go_simp); try with_reducible rfl)
  (try simp only [Act.put, List.getElem_toArray, List.getElem_cons_zero, List.getElem_cons_succ, List.setIfInBounds_toArray, List.set_cons_zero, List.set_cons_succ])
  refine wpAnyJ_take (i := 6) (v := ?_) rfl (by kernel_rfl) (by kernel_rfl) (by kernel_rfl) (by kernel_rfl) (fun _ _ _ h => h) (Or.inl ⟨by rfl, ?_⟩) (by assumption) ?_
  rotate_left
  focus ((intro w hSw; (try dsimp only at hSw); go_simp); try with_reducible rfl)
  (try simp only [Act.put, List.getElem_toArray, List.getElem_cons_zero, List.getElem_cons_succ, List.setIfInBounds_toArray, List.set_cons_zero, List.set_cons_succ])
  refine wpAnyJ_take0 (i := 7) (v := ?_) rfl (by kernel_rfl) (by kernel_rfl) (by kernel_rfl) (fun _ _ _ h => h) (Or.inl ⟨by rfl, ?_⟩) ?_
  rotate_left
  focus ((intro w hSw; clear hSw; go_simp); try with_reducible rfl)
  (try simp only [Act.put, List.getElem_toArray, List.getElem_cons_zero, List.getElem_cons_succ, List.setIfInBounds_toArray, List.set_cons_zero, List.set_cons_succ])
  refine wpAnyJ_take0 (i := 8) (v := ?_) rfl (by kernel_rfl) (by kernel_rfl) (by kernel_rfl) (fun _ _ _ h => h) (Or.inl ⟨by rfl, ?_⟩) ?_
  rotate_left
  focus ((intro w hSw; clear hSw; go_simp); try with_reducible rfl)
  (try simp only [Act.put, List.getElem_toArray, List.getElem_cons_zero, List.getElem_cons_succ, List.setIfInBounds_toArray, List.set_cons_zero, List.set_cons_succ])
  refine wpAnyJ_take0 (i := 9) (v := ?_) rfl (by kernel_rfl) (by kernel_rfl) (by kernel_rfl) (fun _ _ _ h => h) (Or.inl ⟨by rfl, ?_⟩) ?_
  rotate_left
  focus ((intro w hSw; clear hSw; go_simp); try with_reducible rfl)
  (try simp only [Act.put, List.getElem_toArray, List.getElem_cons_zero, List.getElem_cons_succ, List.setIfInBounds_toArray, List.set_cons_zero, List.set_cons_succ])
  refine wpAnyJ_take (i := 10) (v := ?_) rfl (by kernel_rfl) (by kernel_rfl) (by kernel_rfl) (by kernel_rfl) (fun _ _ _ h => h) (Or.inl ⟨by rfl, ?_⟩) (by assumption) ?_
  rotate_left
  focus ((intro w hSw; (try dsimp only at hSw); go_simp); try with_reducible rfl)
  (try simp only [Act.put, List.getElem_toArray, List.getElem_cons_zero, List.getElem_cons_succ, List.setIfInBounds_toArray, List.set_cons_zero, List.set_cons_succ])
  refine wpAnyJ_take0 (i := 11) (v := ?_) rfl (by kernel_rfl) (by kernel_rfl) (by kernel_rfl) (fun _ _ _ h => h) (Or.inl ⟨by rfl, ?_⟩) ?_
  rotate_left
  focus ((intro w hSw; clear hSw; go_simp); try with_reducible rfl)
  (try simp only [Act.put, List.getElem_toArray, List.getElem_cons_zero, List.getElem_cons_succ, List.setIfInBounds_toArray, List.set_cons_zero, List.set_cons_succ])
  refine wpAnyJ_take0 (i := 12) (v := ?_) rfl (by kernel_rfl) (by kernel_rfl) (by kernel_rfl) (fun _ _ _ h => h) (Or.inl ⟨by rfl, ?_⟩) ?_
  rotate_left
  focus ((intro w hSw; clear hSw; go_simp); try with_reducible rfl)
  (try simp only [Act.put, List.getElem_toArray, List.getElem_cons_zero, List.getElem_cons_succ, List.setIfInBounds_toArray, List.set_cons_zero, List.set_cons_succ])
  refine wpAnyJ_take (i := 13) (v := ?_) rfl (by kernel_rfl) (by kernel_rfl) (by kernel_rfl) (by kernel_rfl) (fun _ _ _ h => h) (Or.inl ⟨by rfl, ?_⟩) (by assumption) ?_
  rotate_left
  focus ((intro w hSw; (try dsimp only at hSw); go_simp); try with_reducible rfl)
  (try simp only [Act.put, List.getElem_toArray, List.getElem_cons_zero, List.getElem_cons_succ, List.setIfInBounds_toArray, List.set_cons_zero, List.set_cons_succ])
  refine wpAnyJ_take0 (i := 14) (v := ?_) rfl (by kernel_rfl) (by kernel_rfl) (by kernel_rfl) (fun _ _ _ h => h) (Or.inl ⟨by rfl, ?_⟩) ?_
  rotate_left
  focus ((intro w hSw; clear hSw; go_simp); try with_reducible rfl)
  (try simp only [Act.put, List.getElem_toArray, List.getElem_cons_zero, List.getElem_cons_succ, List.setIfInBounds_toArray, List.set_cons_zero, List.set_cons_succ])
  refine wpAnyJ_take0 (i := 15) (v := ?_) rfl (by kernel_rfl) (by kernel_rfl) (by kernel_rfl) (fun _ _ _ h => h) (Or.inl ⟨by rfl, ?_⟩) ?_
  rotate_left
  focus ((intro w hSw; clear hSw; go_simp); try with_reducible rfl)
  (try simp only [Act.put, List.getElem_toArray, List.getElem_cons_zero, List.getElem_cons_succ, List.setIfInBounds_toArray, List.set_cons_zero, List.set_cons_succ])
  refine wpAnyJ_take0 (i := 16) (v := ?_) rfl (by kernel_rfl) (by kernel_rfl) (by kernel_rfl) (fun _ _ _ h => h) (Or.inl ⟨by rfl, ?_⟩) ?_
  rotate_left
  focus ((intro w hSw; clear hSw; go_simp); try with_reducible rfl)
  (try simp only [Act.put, List.getElem_toArray, List.getElem_cons_zero, List.getElem_cons_succ, List.setIfInBounds_toArray, List.set_cons_zero, List.set_cons_succ])
  refine wpAnyJ_ready (rs := [17]) (by kernel_rfl) (by simp) ?_
  refine AllReadyJ.cons rfl (fun KK hKK => ?_) AllReadyJ.nil
  go_simp
  go_at_call 48
  refine (HL.out w.drew.drew ⟨rfl, rfl, rfl, rfl⟩).mono ?_
  rintro e u1 ⟨rfl, rfl⟩
  refine hKK.out _ _ (fun _ h => h) ?_
  clear hKK KK
  (try simp only [Act.put, List.getElem_toArray, List.getElem_cons_zero, List.getElem_cons_succ, List.setIfInBounds_toArray, List.set_cons_zero, List.set_cons_succ])
  refine wpAnyJ_take0 (i := 18) (v := ?_) rfl (by kernel_rfl) (by kernel_rfl) (by kernel_rfl) (fun _ _ _ h => h) (Or.inl ⟨by rfl, ?_⟩) ?_
  rotate_left
  focus ((intro w hSw; clear hSw; go_simp); try with_reducible rfl)
  (try simp only [Act.put, List.getElem_toArray, List.getElem_cons_zero, List.getElem_cons_succ, List.setIfInBounds_toArray, List.set_cons_zero, List.set_cons_succ])
  refine wpAnyJ_take0 (i := 19) (v := ?_) rfl (by kernel_rfl) (by kernel_rfl) (by kernel_rfl) (fun _ _ _ h => h) (Or.inl ⟨by rfl, ?_⟩) ?_
  rotate_left
  focus ((intro w hSw; clear hSw; go_simp); try with_reducible rfl)
  (try simp only [Act.put, List.getElem_toArray, List.getElem_cons_zero, List.getElem_cons_succ, List.setIfInBounds_toArray, List.set_cons_zero, List.set_cons_succ])
  refine wpAnyJ_take0 (i := 20) (v := ?_) rfl (by kernel_rfl) (by kernel_rfl) (by kernel_rfl) (fun _ _ _ h => h) (Or.inl ⟨by rfl, ?_⟩) ?_
  rotate_left
  focus ((intro w hSw; clear hSw; go_simp); try with_reducible rfl)
  (try simp only [Act.put, List.getElem_toArray, List.getElem_cons_zero, List.getElem_cons_succ, List.setIfInBounds_toArray, List.set_cons_zero, List.set_cons_succ])
  refine wpAnyJ_done (by kernel_rfl) ?_ _
  refine NoPanic.normal ?_
  go_wp2_with fail
  refine wp_region_noPanic ?_
  refine wp_region_J (S := fun u : World => u.cell? ⟨p, 2, none⟩ = some (.slice (some ⟨g3, 0, none⟩) m c3) ∧ u.cell? ⟨g3, i + 1, none⟩ = some (.pointer (some ⟨pr, 0, none⟩)) ∧ u.cell? ⟨pr, 0, none⟩ = some (.slice ar lr cr)) (fun _ => false) (by kernel_rfl) ?_
  have hHeld : (fun u : World => u.cell? ⟨p, 2, none⟩ = some (.slice (some ⟨g3, 0, none⟩) m c3) ∧ u.cell? ⟨g3, i + 1, none⟩ = some (.pointer (some ⟨pr, 0, none⟩)) ∧ u.cell? ⟨pr, 0, none⟩ = some (.slice ar lr cr)) w.drew.drew.drew := ⟨dn, kr, dr⟩
  refine wpAnyJ_take0 (i := 0) (v := ?_) rfl (by kernel_rfl) (by kernel_rfl) (by kernel_rfl) (fun _ _ _ h => h) (Or.inl ⟨by rfl, ?_⟩) ?_
  rotate_left
  focus ((intro w hSw; clear hSw; go_simp); try with_reducible rfl)
  (try simp only [Act.put, List.getElem_toArray, List.getElem_cons_zero, List.getElem_cons_succ, List.setIfInBounds_toArray, List.set_cons_zero, List.set_cons_succ])
  refine wpAnyJ_take0 (i := 1) (v := ?_) rfl (by kernel_rfl) (by kernel_rfl) (by kernel_rfl) (fun _ _ _ h => h) (Or.inl ⟨by rfl, ?_⟩) ?_
  rotate_left
  focus ((intro w hSw; clear hSw; go_simp); try with_reducible rfl)
  (try simp only [Act.put, List.getElem_toArray, List.getElem_cons_zero, List.getElem_cons_succ, List.setIfInBounds_toArray, List.set_cons_zero, List.set_cons_succ])
  refine wpAnyJ_take0 (i := 2) (v := ?_) rfl (by kernel_rfl) (by kernel_rfl) (by kernel_rfl) (fun _ _ _ h => h) (Or.inl ⟨by rfl, ?_⟩) ?_
  rotate_left
  focus ((intro w hSw; clear hSw; go_simp); try with_reducible rfl)
  (try simp only [Act.put, List.getElem_toArray, List.getElem_cons_zero, List.getElem_cons_succ, List.setIfInBounds_toArray, List.set_cons_zero, List.set_cons_succ])
  refine wpAnyJ_take0 (i := 3) (v := ?_) rfl (by kernel_rfl) (by kernel_rfl) (by kernel_rfl) (fun _ _ _ h => h) (Or.inl ⟨by rfl, ?_⟩) ?_
  rotate_left
  focus ((intro w hSw; clear hSw; go_simp); try with_reducible rfl)
  (try simp only [Act.put, List.getElem_toArray, List.getElem_cons_zero, List.getElem_cons_succ, List.setIfInBounds_toArray, List.set_cons_zero, List.set_cons_succ])
  refine wpAnyJ_take0 (i := 4) (v := ?_) rfl (by kernel_rfl) (by kernel_rfl) (by kernel_rfl) (fun _ _ _ h => h) (Or.inl ⟨by rfl, ?_⟩) ?_
  rotate_left
  focus ((intro w hSw; clear hSw; go_simp); try with_reducible rfl)
  (try simp only [Act.put, List.getElem_toArray, List.getElem_cons_zero, List.getElem_cons_succ, List.setIfInBounds_toArray, List.set_cons_zero, List.set_cons_succ])
  refine wpAnyJ_take (i := 5) (v := ?_) rfl (by kernel_rfl) (by kernel_rfl) (by kernel_rfl) (by kernel_rfl) (fun _ _ _ h => h) (Or.inl ⟨by rfl, ?_⟩) (by assumption) ?_
  rotate_left
  focus ((intro w hSw; (try dsimp only at hSw); go_simp); try with_reducible rfl)
  (try simp only [Act.put, List.getElem_toArray, List.getElem_cons_zero, List.getElem_cons_succ, List.setIfInBounds_toArray, List.set_cons_zero, List.set_cons_succ])
  refine wpAnyJ_take0 (i := 6) (v := ?_) rfl (by kernel_rfl) (by kernel_rfl) (by kernel_rfl) (fun _ _ _ h => h) (Or.inl ⟨by rfl, ?_⟩) ?_
  rotate_left
  focus ((intro w hSw; clear hSw; go_simp); try with_reducible rfl)
  (try simp only [Act.put, List.getElem_toArray, List.getElem_cons_zero, List.getElem_cons_succ, List.setIfInBounds_toArray, List.set_cons_zero, List.set_cons_succ])
  refine wpAnyJ_take0 (i := 7) (v := ?_) rfl (by kernel_rfl) (by kernel_rfl) (by kernel_rfl) (fun _ _ _ h => h) (Or.inl ⟨by rfl, ?_⟩) ?_
  rotate_left
  focus ((intro w hSw; clear hSw; go_simp); try with_reducible rfl)
  (try simp only [Act.put, List.getElem_toArray, List.getElem_cons_zero, List.getElem_cons_succ, List.setIfInBounds_toArray, List.set_cons_zero, List.set_cons_succ])
  refine wpAnyJ_take0 (i := 8) (v := ?_) rfl (by kernel_rfl) (by kernel_rfl) (by kernel_rfl) (fun _ _ _ h => h) (Or.inl ⟨by rfl, ?_⟩) ?_
  rotate_left
  focus ((intro w hSw; clear hSw; go_simp); try with_reducible rfl)
  (try simp only [Act.put, List.getElem_toArray, List.getElem_cons_zero, List.getElem_cons_succ, List.setIfInBounds_toArray, List.set_cons_zero, List.set_cons_succ])
  refine wpAnyJ_take0 (i := 9) (v := ?_) rfl (by kernel_rfl) (by kernel_rfl) (by kernel_rfl) (fun _ _ _ h => h) (Or.inl ⟨by rfl, ?_⟩) ?_
  rotate_left
  focus ((intro w hSw; clear hSw; go_simp); try with_reducible rfl)
  (try simp only [Act.put, List.getElem_toArray, List.getElem_cons_zero, List.getElem_cons_succ, List.setIfInBounds_toArray, List.set_cons_zero, List.set_cons_succ])
  refine wpAnyJ_take0 (i := 10) (v := ?_) rfl (by kernel_rfl) (by kernel_rfl) (by kernel_rfl) (fun _ _ _ h => h) (Or.inl ⟨by rfl, ?_⟩) ?_
  rotate_left
  focus ((intro w hSw; clear hSw; go_simp); try with_reducible rfl)
  (try simp only [Act.put, List.getElem_toArray, List.getElem_cons_zero, List.getElem_cons_succ, List.setIfInBounds_toArray, List.set_cons_zero, List.set_cons_succ])
  refine wpAnyJ_take0 (i := 11) (v := ?_) rfl (by kernel_rfl) (by kernel_rfl) (by kernel_rfl) (fun _ _ _ h => h) (Or.inl ⟨by rfl, ?_⟩) ?_
  rotate_left
  focus ((intro w hSw; clear hSw; go_simp); try with_reducible rfl)
  (try simp only [Act.put, List.getElem_toArray, List.getElem_cons_zero, List.getElem_cons_succ, List.setIfInBounds_toArray, List.set_cons_zero, List.set_cons_succ])
  refine wpAnyJ_take (i := 12) (v := ?_) rfl (by kernel_rfl) (by kernel_rfl) (by kernel_rfl) (by kernel_rfl) (fun _ _ _ h => h) (Or.inl ⟨by rfl, ?_⟩) (by assumption) ?_
  rotate_left
  focus ((intro w hSw; (try dsimp only at hSw); go_simp); try with_reducible rfl)
  (try simp only [Act.put, List.getElem_toArray, List.getElem_cons_zero, List.getElem_cons_succ, List.setIfInBounds_toArray, List.set_cons_zero, List.set_cons_succ])
  refine wpAnyJ_take0 (i := 13) (v := ?_) rfl (by kernel_rfl) (by kernel_rfl) (by kernel_rfl) (fun _ _ _ h => h) (Or.inl ⟨by rfl, ?_⟩) ?_
  rotate_left
  focus ((intro w hSw; clear hSw; go_simp); try with_reducible rfl)
  (try simp only [Act.put, List.getElem_toArray, List.getElem_cons_zero, List.getElem_cons_succ, List.setIfInBounds_toArray, List.set_cons_zero, List.set_cons_succ])
  refine wpAnyJ_take0 (i := 14) (v := ?_) rfl (by kernel_rfl) (by kernel_rfl) (by kernel_rfl) (fun _ _ _ h => h) (Or.inl ⟨by rfl, ?_⟩) ?_
  rotate_left
  focus ((intro w hSw; clear hSw; go_simp); try with_reducible rfl)
  (try simp only [Act.put, List.getElem_toArray, List.getElem_cons_zero, List.getElem_cons_succ, List.setIfInBounds_toArray, List.set_cons_zero, List.set_cons_succ])
  refine wpAnyJ_take0 (i := 15) (v := ?_) rfl (by kernel_rfl) (by kernel_rfl) (by kernel_rfl) (fun _ _ _ h => h) (Or.inl ⟨by rfl, ?_⟩) ?_
  rotate_left
  focus ((intro w hSw; clear hSw; go_simp); try with_reducible rfl)
  (try simp only [Act.put, List.getElem_toArray, List.getElem_cons_zero, List.getElem_cons_succ, List.setIfInBounds_toArray, List.set_cons_zero, List.set_cons_succ])
  refine wpAnyJ_take (i := 16) (v := ?_) rfl (by kernel_rfl) (by kernel_rfl) (by kernel_rfl) (by kernel_rfl) (fun _ _ _ h => h) (Or.inl ⟨by rfl, ?_⟩) (by assumption) ?_
  rotate_left
  focus ((intro w hSw; (try dsimp only at hSw); go_simp); try with_reducible rfl)
  (try simp only [Act.put, List.getElem_toArray, List.getElem_cons_zero, List.getElem_cons_succ, List.setIfInBounds_toArray, List.set_cons_zero, List.set_cons_succ])
  refine wpAnyJ_take0 (i := 17) (v := ?_) rfl (by kernel_rfl) (by kernel_rfl) (by kernel_rfl) (fun _ _ _ h => h) (Or.inl ⟨by rfl, ?_⟩) ?_
  rotate_left
  focus ((intro w hSw; clear hSw; go_simp); try with_reducible rfl)
  (try simp only [Act.put, List.getElem_toArray, List.getElem_cons_zero, List.getElem_cons_succ, List.setIfInBounds_toArray, List.set_cons_zero, List.set_cons_succ])
  refine wpAnyJ_take0 (i := 18) (v := ?_) rfl (by kernel_rfl) (by kernel_rfl) (by kernel_rfl) (fun _ _ _ h => h) (Or.inl ⟨by rfl, ?_⟩) ?_
  rotate_left
  focus ((intro w hSw; clear hSw; go_simp); try with_reducible rfl)
  (try simp only [Act.put, List.getElem_toArray, List.getElem_cons_zero, List.getElem_cons_succ, List.setIfInBounds_toArray, List.set_cons_zero, List.set_cons_succ])
  refine wpAnyJ_take (i := 19) (v := ?_) rfl (by kernel_rfl) (by kernel_rfl) (by kernel_rfl) (by kernel_rfl) (fun _ _ _ h => h) (Or.inl ⟨by rfl, ?_⟩) (by assumption) ?_
  rotate_left
  focus ((intro w hSw; (try dsimp only at hSw); go_simp); try with_reducible rfl)
  (try simp only [Act.put, List.getElem_toArray, List.getElem_cons_zero, List.getElem_cons_succ, List.setIfInBounds_toArray, List.set_cons_zero, List.set_cons_succ])
  refine wpAnyJ_take0 (i := 20) (v := ?_) rfl (by kernel_rfl) (by kernel_rfl) (by kernel_rfl) (fun _ _ _ h => h) (Or.inl ⟨by rfl, ?_⟩) ?_
  rotate_left
  focus ((intro w hSw; clear hSw; go_simp); try with_reducible rfl)
  (try simp only [Act.put, List.getElem_toArray, List.getElem_cons_zero, List.getElem_cons_succ, List.setIfInBounds_toArray, List.set_cons_zero, List.set_cons_succ])
  refine wpAnyJ_take0 (i := 21) (v := ?_) rfl (by kernel_rfl) (by kernel_rfl) (by kernel_rfl) (fun _ _ _ h => h) (Or.inl ⟨by rfl, ?_⟩) ?_
  rotate_left
  focus ((intro w hSw; clear hSw; go_simp); try with_reducible rfl)
  (try simp only [Act.put, List.getElem_toArray, List.getElem_cons_zero, List.getElem_cons_succ, List.setIfInBounds_toArray, List.set_cons_zero, List.set_cons_succ])
  refine wpAnyJ_take0 (i := 22) (v := ?_) rfl (by kernel_rfl) (by kernel_rfl) (by kernel_rfl) (fun _ _ _ h => h) (Or.inl ⟨by rfl, ?_⟩) ?_
  rotate_left
  focus ((intro w hSw; clear hSw; go_simp); try with_reducible rfl)
  (try simp only [Act.put, List.getElem_toArray, List.getElem_cons_zero, List.getElem_cons_succ, List.setIfInBounds_toArray, List.set_cons_zero, List.set_cons_succ])
  refine wpAnyJ_ready (rs := [23]) (by kernel_rfl) (by simp) ?_
  refine AllReadyJ.cons rfl (fun KK hKK => ?_) AllReadyJ.nil
  go_simp
  go_at_call 48
  refine (HL.out w.drew.drew.drew ⟨rfl, rfl, rfl, rfl⟩).mono ?_
  rintro e u1 ⟨rfl, rfl⟩
  refine hKK.out _ _ (fun _ h => h) ?_
  clear hKK KK
  (try simp only [Act.put, List.getElem_toArray, List.getElem_cons_zero, List.getElem_cons_succ, List.setIfInBounds_toArray, List.set_cons_zero, List.set_cons_succ])
  refine wpAnyJ_take0 (i := 24) (v := ?_) rfl (by kernel_rfl) (by kernel_rfl) (by kernel_rfl) (fun _ _ _ h => h) (Or.inl ⟨by rfl, ?_⟩) ?_
  rotate_left
  focus ((intro w hSw; clear hSw; go_simp); try with_reducible rfl)
  (try simp only [Act.put, List.getElem_toArray, List.getElem_cons_zero, List.getElem_cons_succ, List.setIfInBounds_toArray, List.set_cons_zero, List.set_cons_succ])
  refine wpAnyJ_take0 (i := 25) (v := ?_) rfl (by kernel_rfl) (by kernel_rfl) (by kernel_rfl) (fun _ _ _ h => h) (Or.inl ⟨by rfl, ?_⟩) ?_
  rotate_left
  focus ((intro w hSw; clear hSw; go_simp); try with_reducible rfl)
  (try simp only [Act.put, List.getElem_toArray, List.getElem_cons_zero, List.getElem_cons_succ, List.setIfInBounds_toArray, List.set_cons_zero, List.set_cons_succ])
  refine wpAnyJ_take0 (i := 26) (v := ?_) rfl (by kernel_rfl) (by kernel_rfl) (by kernel_rfl) (fun _ _ _ h => h) (Or.inl ⟨by rfl, ?_⟩) ?_
  rotate_left
  focus ((intro w hSw; clear hSw; go_simp); try with_reducible rfl)
  (try simp only [Act.put, List.getElem_toArray, List.getElem_cons_zero, List.getElem_cons_succ, List.setIfInBounds_toArray, List.set_cons_zero, List.set_cons_succ])
  refine wpAnyJ_done (by kernel_rfl) ?_ _
  refine NoPanic.normal ?_
  go_wp2_with fail
  refine (HH.out w.drew.drew.drew ⟨rfl, rfl, rfl, rfl⟩).mono ?_
  rintro e w' ⟨rfl, hq⟩
  have HQ := Lib.hid hq
  clear hq
  go_wp2_with fail
  exact ⟨rfl, _, results_none rfl _ _ _, rfl, HQ.out⟩
set_option maxRecDepth 100000 in
set_option maxHeartbeats 16000000 in
theorem mend_joinz {w : World} {p tb i j m c3 g3 pk pl pr L lk ll lr ck cl cr : Nat} {ak al ar : Option Addr} {Q : World → Prop} (dn : w.cell? ⟨p, 2, none⟩ = some (.slice (some ⟨g3, 0, none⟩) m c3)) (hi : i < m) (hm : m ≤ 1000)
    (ki : w.cell? ⟨g3, i, none⟩ = some (.pointer (some ⟨pk, 0, none⟩))) (dk : w.cell? ⟨pk, 0, none⟩ = some (.slice ak lk ck))
    (hl : ∀ W, Same4 w W → Calls Try.prog 48 #[.pointer (some ⟨tb, 0, none⟩), .pointer (some ⟨pk, 0, none⟩)] W fun e w' => e = .returned (.int .i64 L) ∧ W = w')
    (hk : lk < L) (hij : i = j + 1) (kl : w.cell? ⟨g3, j, none⟩ = some (.pointer (some ⟨pl, 0, none⟩))) (dl : w.cell? ⟨pl, 0, none⟩ = some (.slice al ll cl)) (hg : ll ≤ L) (him : i + 1 = m)
    (H : ∀ W, Same4 w W → Calls Try.prog 63 #[.pointer (some ⟨p, 0, none⟩), .int .i64 j] W fun e w' => e = .returned (.tuple #[]) ∧ Q w') :
    Calls Try.prog 54 #[.pointer (some ⟨tb, 0, none⟩), .pointer (some ⟨p, 0, none⟩), .int .i64 i] w (fun e w' => e = .returned (.tuple #[]) ∧ Q w') := by
  have HL := Lib.hid hl
  have HH := Lib.hid H
  have hi' : (i : Int) < m := by omega
  have hi0 : (0 : Int) ≤ i := by omega
  have hwp : IntKind.i64.wrap ((i : Int) + 1) = (i : Int) + 1 := IntWalk.i64_in _ (by omega)
  have hnn : ((i : Int) + 1).toNat = i + 1 := by omega
  have hi1 : (0 : Int) ≤ (i : Int) + 1 := by omega
  have hk2 : ¬ (L : Int) ≤ lk := by omega
  have hg' : ¬ (L : Int) < ll := by omega
  have hip : 0 < i := by omega
  have hj0 : (0 : Int) ≤ j := by omega
  have hjm : (j : Int) < m := by omega
  have hwm : IntKind.i64.wrap ((i : Int) - 1) = (j : Int) := by rw [IntWalk.i64_in _ (by omega)]; omega
  clear hij
  subst him
  have hj9 : (j : Int) < (i : Int) + 1 := by omega
  have hi9 : (i : Int) < (i : Int) + 1 := by omega
  clear hl H
  go_enter Try.func54, Try.ntmps54
  go_wp2_with fail
  refine wp_region_noPanic ?_
  refine wp_region_J (S := fun u : World => u.cell? ⟨pk, 0, none⟩ = some (.slice ak lk ck)) (fun _ => false) (by kernel_rfl) ?_
  have hHeld : (fun u : World => u.cell? ⟨pk, 0, none⟩ = some (.slice ak lk ck)) w.drew := dk
  refine wpAnyJ_take0 (i := 0) (v := ?_) rfl (by kernel_rfl) (by kernel_rfl) (by kernel_rfl) (fun _ _ _ h => h) (Or.inl ⟨by rfl, ?_⟩) ?_
  rotate_left
  focus ((intro w hSw; clear hSw; go_simp); try with_reducible rfl)
  (try simp only [Act.put, List.getElem_toArray, List.getElem_cons_zero, List.getElem_cons_succ, List.setIfInBounds_toArray, List.set_cons_zero, List.set_cons_succ])
  refine wpAnyJ_take0 (i := 1) (v := ?_) rfl (by kernel_rfl) (by kernel_rfl) (by kernel_rfl) (fun _ _ _ h => h) (Or.inl ⟨by rfl, ?_⟩) ?_
  rotate_left
  focus ((intro w hSw; clear hSw; go_simp); try with_reducible rfl)
  (try simp only [Act.put, List.getElem_toArray, List.getElem_cons_zero, List.getElem_cons_succ, List.setIfInBounds_toArray, List.set_cons_zero, List.set_cons_succ])
  refine wpAnyJ_take0 (i := 2) (v := ?_) rfl (by kernel_rfl) (by kernel_rfl) (by kernel_rfl) (fun _ _ _ h => h) (Or.inl ⟨by rfl, ?_⟩) ?_
  rotate_left
  focus ((intro w hSw; clear hSw; go_simp); try with_reducible rfl)
  (try simp only [Act.put, List.getElem_toArray, List.getElem_cons_zero, List.getElem_cons_succ, List.setIfInBounds_toArray, List.set_cons_zero, List.set_cons_succ])
  refine wpAnyJ_take (i := 3) (v := ?_) rfl (by kernel_rfl) (by kernel_rfl) (by kernel_rfl) (by kernel_rfl) (fun _ _ _ h => h) (Or.inl ⟨by rfl, ?_⟩) (by assumption) ?_
  rotate_left
  focus ((intro w hSw; (try dsimp only at hSw); go_simp); try with_reducible rfl)
  (try simp only [Act.put, List.getElem_toArray, List.getElem_cons_zero, List.getElem_cons_succ, List.setIfInBounds_toArray, List.set_cons_zero, List.set_cons_succ])
  refine wpAnyJ_take0 (i := 4) (v := ?_) rfl (by kernel_rfl) (by kernel_rfl) (by kernel_rfl) (fun _ _ _ h => h) (Or.inl ⟨by rfl, ?_⟩) ?_
  rotate_left
  focus ((intro w hSw; clear hSw; go_simp); try with_reducible rfl)
  (try simp only [Act.put, List.getElem_toArray, List.getElem_cons_zero, List.getElem_cons_succ, List.setIfInBounds_toArray, List.set_cons_zero, List.set_cons_succ])
  refine wpAnyJ_take0 (i := 5) (v := ?_) rfl (by kernel_rfl) (by kernel_rfl) (by kernel_rfl) (fun _ _ _ h => h) (Or.inl ⟨by rfl, ?_⟩) ?_
  rotate_left
  focus ((intro w hSw; clear hSw; go_simp); try with_reducible rfl)
  (try simp only [Act.put, List.getElem_toArray, List.getElem_cons_zero, List.getElem_cons_succ, List.setIfInBounds_toArray, List.set_cons_zero, List.set_cons_succ])
  refine wpAnyJ_take0 (i := 6) (v := ?_) rfl (by kernel_rfl) (by kernel_rfl) (by kernel_rfl) (fun _ _ _ h => h) (Or.inl ⟨by rfl, ?_⟩) ?_
  rotate_left
  focus ((intro w hSw; clear hSw; go_simp); try with_reducible rfl)
  (try simp only [Act.put, List.getElem_toArray, List.getElem_cons_zero, List.getElem_cons_succ, List.setIfInBounds_toArray, List.set_cons_zero, List.set_cons_succ])
  refine wpAnyJ_ready (rs := [7]) (by kernel_rfl) (by simp) ?_
  refine AllReadyJ.cons rfl (fun KK hKK => ?_) AllReadyJ.nil
  go_simp
  go_at_call 48
  refine (HL.out w.drew ⟨rfl, rfl, rfl, rfl⟩).mono ?_
  rintro e u1 ⟨rfl, rfl⟩
  refine hKK.out _ _ (fun _ h => h) ?_
  clear hKK KK
  (try simp only [Act.put, List.getElem_toArray, List.getElem_cons_zero, List.getElem_cons_succ, List.setIfInBounds_toArray, List.set_cons_zero, List.set_cons_succ])
  refine wpAnyJ_take0 (i := 8) (v := ?_) rfl (by kernel_rfl) (by kernel_rfl) (by kernel_rfl) (fun _ _ _ h => h) (Or.inl ⟨by rfl, ?_⟩) ?_
  rotate_left
  focus ((intro w hSw; clear hSw; go_simp); try with_reducible rfl)
  (try simp only [Act.put, List.getElem_toArray, List.getElem_cons_zero, List.getElem_cons_succ, List.setIfInBounds_toArray, List.set_cons_zero, List.set_cons_succ])
  refine wpAnyJ_done (by kernel_rfl) ?_ _
  refine NoPanic.normal ?_
  go_wp2_with fail
  refine wp_region_noPanic ?_
  refine wp_region_J (S := fun u : World => u.cell? ⟨p, 2, none⟩ = some (.slice (some ⟨g3, 0, none⟩) (i + 1) c3) ∧ u.cell? ⟨g3, j, none⟩ = some (.pointer (some ⟨pl, 0, none⟩)) ∧ u.cell? ⟨pl, 0, none⟩ = some (.slice al ll cl)) (fun _ => false) (by kernel_rfl) ?_
  have hHeld : (fun u : World => u.cell? ⟨p, 2, none⟩ = some (.slice (some ⟨g3, 0, none⟩) (i + 1) c3) ∧ u.cell? ⟨g3, j, none⟩ = some (.pointer (some ⟨pl, 0, none⟩)) ∧ u.cell? ⟨pl, 0, none⟩ = some (.slice al ll cl)) w.drew.drew := ⟨dn, kl, dl⟩
  refine wpAnyJ_take0 (i := 0) (v := ?_) rfl (by kernel_rfl) (by kernel_rfl) (by kernel_rfl) (fun _ _ _ h => h) (Or.inl ⟨by rfl, ?_⟩) ?_
  rotate_left
  focus ((intro w hSw; clear hSw; go_simp); try with_reducible rfl)
  (try simp only [Act.put, List.getElem_toArray, List.getElem_cons_zero, List.getElem_cons_succ, List.setIfInBounds_toArray, List.set_cons_zero, List.set_cons_succ])
  refine wpAnyJ_take0 (i := 1) (v := ?_) rfl (by kernel_rfl) (by kernel_rfl) (by kernel_rfl) (fun _ _ _ h => h) (Or.inl ⟨by rfl, ?_⟩) ?_
  rotate_left
  focus ((intro w hSw; clear hSw; go_simp); try with_reducible rfl)
  (try simp only [Act.put, List.getElem_toArray, List.getElem_cons_zero, List.getElem_cons_succ, List.setIfInBounds_toArray, List.set_cons_zero, List.set_cons_succ])
  refine wpAnyJ_take0 (i := 2) (v := ?_) rfl (by kernel_rfl) (by kernel_rfl) (by kernel_rfl) (fun _ _ _ h => h) (Or.inl ⟨by rfl, ?_⟩) ?_
  rotate_left
  focus ((intro w hSw; clear hSw; go_simp); try with_reducible rfl)
  (try simp only [Act.put, List.getElem_toArray, List.getElem_cons_zero, List.getElem_cons_succ, List.setIfInBounds_toArray, List.set_cons_zero, List.set_cons_succ])
  refine wpAnyJ_take0 (i := 3) (v := ?_) rfl (by kernel_rfl) (by kernel_rfl) (by kernel_rfl) (fun _ _ _ h => h) (Or.inl ⟨by rfl, ?_⟩) ?_
  rotate_left
  focus ((intro w hSw; clear hSw; go_simp); try with_reducible rfl)
  (try simp only [Act.put, List.getElem_toArray, List.getElem_cons_zero, List.getElem_cons_succ, List.setIfInBounds_toArray, List.set_cons_zero, List.set_cons_succ])
  refine wpAnyJ_take0 (i := 4) (v := ?_) rfl (by kernel_rfl) (by kernel_rfl) (by kernel_rfl) (fun _ _ _ h => h) (Or.inl ⟨by rfl, ?_⟩) ?_
  rotate_left
  focus ((intro w hSw; clear hSw; go_simp); try with_reducible rfl)
  (try simp only [Act.put, List.getElem_toArray, List.getElem_cons_zero, List.getElem_cons_succ, List.setIfInBounds_toArray, List.set_cons_zero, List.set_cons_succ])
  refine wpAnyJ_take0 (i := 5) (v := ?_) rfl (by kernel_rfl) (by kernel_rfl) (by kernel_rfl) (fun _ _ _ h => h) (Or.inl ⟨by rfl, ?_⟩) ?_
  rotate_left
  focus ((intro w hSw; clear hSw; go_simp); try with_reducible rfl)
  (try simp only [Act.put, List.getElem_toArray, List.getElem_cons_zero, List.getElem_cons_succ, List.setIfInBounds_toArray, List.set_cons_zero, List.set_cons_succ])
  refine wpAnyJ_take (i := 6) (v := ?_) rfl (by kernel_rfl) (by kernel_rfl) (by kernel_rfl) (by kernel_rfl) (fun _ _ _ h => h) (Or.inl ⟨by rfl, ?_⟩) (by assumption) ?_
  rotate_left
  focus ((intro w hSw; (try dsimp only at hSw); go_simp); try with_reducible rfl)
  (try simp only [Act.put, List.getElem_toArray, List.getElem_cons_zero, List.getElem_cons_succ, List.setIfInBounds_toArray, List.set_cons_zero, List.set_cons_succ])
  refine wpAnyJ_take0 (i := 7) (v := ?_) rfl (by kernel_rfl) (by kernel_rfl) (by kernel_rfl) (fun _ _ _ h => h) (Or.inl ⟨by rfl, ?_⟩) ?_
  rotate_left
  focus ((intro w hSw; clear hSw; go_simp); try with_reducible rfl)
  (try simp only [Act.put, List.getElem_toArray, List.getElem_cons_zero, List.getElem_cons_succ, List.setIfInBounds_toArray, List.set_cons_zero, List.set_cons_succ])
  refine wpAnyJ_take0 (i := 8) (v := ?_) rfl (by kernel_rfl) (by kernel_rfl) (by kernel_rfl) (fun _ _ _ h => h) (Or.inl ⟨by rfl, ?_⟩) ?_
  rotate_left
  focus ((intro w hSw; clear hSw; go_simp); try with_reducible rfl)
  (try simp only [Act.put, List.getElem_toArray, List.getElem_cons_zero, List.getElem_cons_succ, List.setIfInBounds_toArray, List.set_cons_zero, List.set_cons_succ])
  refine wpAnyJ_take0 (i := 9) (v := ?_) rfl (by kernel_rfl) (by kernel_rfl) (by kernel_rfl) (fun _ _ _ h => h) (Or.inl ⟨by rfl, ?_⟩) ?_
  rotate_left
  focus ((intro w hSw; clear hSw; go_simp); try with_reducible rfl)
  (try simp only [Act.put, List.getElem_toArray, List.getElem_cons_zero, List.getElem_cons_succ, List.setIfInBounds_toArray, List.set_cons_zero, List.set_cons_succ])
  refine wpAnyJ_take (i := 10) (v := ?_) rfl (by kernel_rfl) (by kernel_rfl) (by kernel_rfl) (by kernel_rfl) (fun _ _ _ h => h) (Or.inl ⟨by rfl, ?_⟩) (by assumption) ?_
  rotate_left
  focus ((intro w hSw; (try dsimp only at hSw); go_simp); try with_reducible rfl)
  (try simp only [Act.put, List.getElem_toArray, List.getElem_cons_zero, List.getElem_cons_succ, List.setIfInBounds_toArray, List.set_cons_zero, List.set_cons_succ])
  refine wpAnyJ_take0 (i := 11) (v := ?_) rfl (by kernel_rfl) (by kernel_rfl) (by kernel_rfl) (fun _ _ _ h => h) (Or.inl ⟨by rfl, ?_⟩) ?_
  rotate_left
  focus ((intro w hSw; clear hSw; go_simp); try with_reducible rfl)
  (try simp only [Act.put, List.getElem_toArray, List.getElem_cons_zero, List.getElem_cons_succ, List.setIfInBounds_toArray, List.set_cons_zero, List.set_cons_succ])
  refine wpAnyJ_take0 (i := 12) (v := ?_) rfl (by kernel_rfl) (by kernel_rfl) (by kernel_rfl) (fun _ _ _ h => h) (Or.inl ⟨by rfl, ?_⟩) ?_
  rotate_left
  focus ((intro w hSw; clear hSw; go_simp); try with_reducible rfl)
  (try simp only [Act.put, List.getElem_toArray, List.getElem_cons_zero, List.getElem_cons_succ, List.setIfInBounds_toArray, List.set_cons_zero, List.set_cons_succ])
  refine wpAnyJ_take (i := 13) (v := ?_) rfl (by kernel_rfl) (by kernel_rfl) (by kernel_rfl) (by kernel_rfl) (fun _ _ _ h => h) (Or.inl ⟨by rfl, ?_⟩) (by assumption) ?_
  rotate_left
  focus ((intro w hSw; (try dsimp only at hSw); go_simp); try with_reducible rfl)
  (try simp only [Act.put, List.getElem_toArray, List.getElem_cons_zero, List.getElem_cons_succ, List.setIfInBounds_toArray, List.set_cons_zero, List.set_cons_succ])
  refine wpAnyJ_take0 (i := 14) (v := ?_) rfl (by kernel_rfl) (by kernel_rfl) (by kernel_rfl) (fun _ _ _ h => h) (Or.inl ⟨by rfl, ?_⟩) ?_
  rotate_left
  focus ((intro w hSw; clear hSw; go_simp); try with_reducible rfl)
  (try simp only [Act.put, List.getElem_toArray, List.getElem_cons_zero, List.getElem_cons_succ, List.setIfInBounds_toArray, List.set_cons_zero, List.set_cons_succ])
  refine wpAnyJ_take0 (i := 15) (v := ?_) rfl (by kernel_rfl) (by kernel_rfl) (by kernel_rfl) (fun _ _ _ h => h) (Or.inl ⟨by rfl, ?_⟩) ?_
  rotate_left
  focus ((intro w hSw; clear hSw; go_simp); try with_reducible rfl)
  (try simp only [Act.put, List.getElem_toArray, List.getElem_cons_zero, List.getElem_cons_succ, List.setIfInBounds_toArray, List.set_cons_zero, List.set_cons_succ])
  refine wpAnyJ_take0 (i := 16) (v := ?_) rfl (by kernel_rfl) (by kernel_rfl) (by kernel_rfl) (fun _ _ _ h => h) (Or.inl ⟨by rfl, ?_⟩) ?_
  rotate_left
  focus ((intro w hSw; clear hSw; go_simp); try with_reducible rfl)
  (try simp only [Act.put, List.getElem_toArray, List.getElem_cons_zero, List.getElem_cons_succ, List.setIfInBounds_toArray, List.set_cons_zero, List.set_cons_succ])
  refine wpAnyJ_ready (rs := [17]) (by kernel_rfl) (by simp) ?_
  refine AllReadyJ.cons rfl (fun KK hKK => ?_) AllReadyJ.nil
  go_simp
  go_at_call 48
  refine (HL.out w.drew.drew ⟨rfl, rfl, rfl, rfl⟩).mono ?_
  rintro e u1 ⟨rfl, rfl⟩
  refine hKK.out _ _ (fun _ h => h) ?_
  clear hKK KK
  (try simp only [Act.put, List.getElem_toArray, List.getElem_cons_zero, List.getElem_cons_succ, List.setIfInBounds_toArray, List.set_cons_zero, List.set_cons_succ])
  refine wpAnyJ_take0 (i := 18) (v := ?_) rfl (by kernel_rfl) (by kernel_rfl) (by kernel_rfl) (fun _ _ _ h => h) (Or.inl ⟨by rfl, ?_⟩) ?_
  rotate_left
  focus ((intro w hSw; clear hSw; go_simp); try with_reducible rfl)
  (try simp only [Act.put, List.getElem_toArray, List.getElem_cons_zero, List.getElem_cons_succ, List.setIfInBounds_toArray, List.set_cons_zero, List.set_cons_succ])
  refine wpAnyJ_take0 (i := 19) (v := ?_) rfl (by kernel_rfl) (by kernel_rfl) (by kernel_rfl) (fun _ _ _ h => h) (Or.inl ⟨by rfl, ?_⟩) ?_
  rotate_left
  focus ((intro w hSw; clear hSw; go_simp); try with_reducible rfl)
  (try simp only [Act.put, List.getElem_toArray, List.getElem_cons_zero, List.getElem_cons_succ, List.setIfInBounds_toArray, List.set_cons_zero, List.set_cons_succ])
  refine wpAnyJ_take0 (i := 20) (v := ?_) rfl (by kernel_rfl) (by kernel_rfl) (by kernel_rfl) (fun _ _ _ h => h) (Or.inl ⟨by rfl, ?_⟩) ?_
  rotate_left
  focus ((intro w hSw; clear hSw; go_simp); try with_reducible rfl)
  (try simp only [Act.put, List.getElem_toArray, List.getElem_cons_zero, List.getElem_cons_succ, List.setIfInBounds_toArray, List.set_cons_zero, List.set_cons_succ])
  refine wpAnyJ_done (by kernel_rfl) ?_ _
  refine NoPanic.normal ?_
  go_wp2_with fail
  refine wp_region_noPanic ?_
  refine wp_region_J (S := fun u : World => u.cell? ⟨p, 2, none⟩ = some (.slice (some ⟨g3, 0, none⟩) (i + 1) c3)) (fun _ => false) (by kernel_rfl) ?_
  have hHeld : (fun u : World => u.cell? ⟨p, 2, none⟩ = some (.slice (some ⟨g3, 0, none⟩) (i + 1) c3)) w.drew.drew.drew := dn
  refine wpAnyJ_take0 (i := 0) (v := ?_) rfl (by kernel_rfl) (by kernel_rfl) (by kernel_rfl) (fun _ _ _ h => h) (Or.inl ⟨by rfl, ?_⟩) ?_
  rotate_left
  focus ((intro w hSw; clear hSw; go_simp); try with_reducible rfl)
  (try simp only [Act.put, List.getElem_toArray, List.getElem_cons_zero, List.getElem_cons_succ, List.setIfInBounds_toArray, List.set_cons_zero, List.set_cons_succ])
  refine wpAnyJ_take0 (i := 1) (v := ?_) rfl (by kernel_rfl) (by kernel_rfl) (by kernel_rfl) (fun _ _ _ h => h) (Or.inl ⟨by rfl, ?_⟩) ?_
  rotate_left
  focus ((intro w hSw; clear hSw; go_simp); try with_reducible rfl)
  (try simp only [Act.put, List.getElem_toArray, List.getElem_cons_zero, List.getElem_cons_succ, List.setIfInBounds_toArray, List.set_cons_zero, List.set_cons_succ])
  refine wpAnyJ_take0 (i := 2) (v := ?_) rfl (by kernel_rfl) (by kernel_rfl) (by kernel_rfl) (fun _ _ _ h => h) (Or.inl ⟨by rfl, ?_⟩) ?_
  rotate_left
  focus ((intro w hSw; clear hSw; go_simp); try with_reducible rfl)
  (try simp only [Act.put, List.getElem_toArray, List.getElem_cons_zero, List.getElem_cons_succ, List.setIfInBounds_toArray, List.set_cons_zero, List.set_cons_succ])
  refine wpAnyJ_take0 (i := 3) (v := ?_) rfl (by kernel_rfl) (by kernel_rfl) (by kernel_rfl) (fun _ _ _ h => h) (Or.inl ⟨by rfl, ?_⟩) ?_
  rotate_left
  focus ((intro w hSw; clear hSw; go_simp); try with_reducible rfl)
  (try simp only [Act.put, List.getElem_toArray, List.getElem_cons_zero, List.getElem_cons_succ, List.setIfInBounds_toArray, List.set_cons_zero, List.set_cons_succ])
  refine wpAnyJ_take0 (i := 4) (v := ?_) rfl (by kernel_rfl) (by kernel_rfl) (by kernel_rfl) (fun _ _ _ h => h) (Or.inl ⟨by rfl, ?_⟩) ?_
  rotate_left
  focus ((intro w hSw; clear hSw; go_simp); try with_reducible rfl)
  (try simp only [Act.put, List.getElem_toArray, List.getElem_cons_zero, List.getElem_cons_succ, List.setIfInBounds_toArray, List.set_cons_zero, List.set_cons_succ])
  refine wpAnyJ_take (i := 5) (v := ?_) rfl (by kernel_rfl) (by kernel_rfl) (by kernel_rfl) (by kernel_rfl) (fun _ _ _ h => h) (Or.inl ⟨by rfl, ?_⟩) (by assumption) ?_
  rotate_left
  focus ((intro w hSw; (try dsimp only at hSw); go_simp); try with_reducible rfl)
  (try simp only [Act.put, List.getElem_toArray, List.getElem_cons_zero, List.getElem_cons_succ, List.setIfInBounds_toArray, List.set_cons_zero, List.set_cons_succ])
  refine wpAnyJ_take0 (i := 6) (v := ?_) rfl (by kernel_rfl) (by kernel_rfl) (by kernel_rfl) (fun _ _ _ h => h) (Or.inl ⟨by rfl, ?_⟩) ?_
  rotate_left
  focus ((intro w hSw; clear hSw; go_simp); try with_reducible rfl)
  (try simp only [Act.put, List.getElem_toArray, List.getElem_cons_zero, List.getElem_cons_succ, List.setIfInBounds_toArray, List.set_cons_zero, List.set_cons_succ])
  refine wpAnyJ_take0 (i := 7) (v := ?_) rfl (by kernel_rfl) (by kernel_rfl) (by kernel_rfl) (fun _ _ _ h => h) (Or.inl ⟨by rfl, ?_⟩) ?_
  rotate_left
  focus ((intro w hSw; clear hSw; go_simp); try with_reducible rfl)
  (try simp only [Act.put, List.getElem_toArray, List.getElem_cons_zero, List.getElem_cons_succ, List.setIfInBounds_toArray, List.set_cons_zero, List.set_cons_succ])
  refine wpAnyJ_take0 (i := 8) (v := ?_) rfl (by kernel_rfl) (by kernel_rfl) (by kernel_rfl) (fun _ _ _ h => h) (Or.inl ⟨by rfl, ?_⟩) ?_
  rotate_left
  focus ((intro w hSw; clear hSw; go_simp); try with_reducible rfl)
  (try simp only [Act.put, List.getElem_toArray, List.getElem_cons_zero, List.getElem_cons_succ, List.setIfInBounds_toArray, List.set_cons_zero, List.set_cons_succ])
  refine wpAnyJ_take0 (i := 9) (v := undef) rfl (by kernel_rfl) (by kernel_rfl) (by kernel_rfl) (fun _ _ _ h => h) (Or.inr ⟨by rfl, rfl⟩) ?_
  (try simp only [Act.put, List.getElem_toArray, List.getElem_cons_zero, List.getElem_cons_succ, List.setIfInBounds_toArray, List.set_cons_zero, List.set_cons_succ])
  refine wpAnyJ_take0 (i := 10) (v := undef) rfl (by kernel_rfl) (by kernel_rfl) (by kernel_rfl) (fun _ _ _ h => h) (Or.inr ⟨by rfl, rfl⟩) ?_
  (try simp only [Act.put, List.getElem_toArray, List.getElem_cons_zero, List.getElem_cons_succ, List.setIfInBounds_toArray, List.set_cons_zero, List.set_cons_succ])
  refine wpAnyJ_take0 (i := 11) (v := undef) rfl (by kernel_rfl) (by kernel_rfl) (by kernel_rfl) (fun _ _ _ h => h) (Or.inr ⟨by rfl, rfl⟩) ?_
  (try simp only [Act.put, List.getElem_toArray, List.getElem_cons_zero, List.getElem_cons_succ, List.setIfInBounds_toArray, List.set_cons_zero, List.set_cons_succ])
  refine wpAnyJ_take0 (i := 12) (v := undef) rfl (by kernel_rfl) (by kernel_rfl) (by kernel_rfl) (fun _ _ _ h => h) (Or.inr ⟨by rfl, rfl⟩) ?_
  (try simp only [Act.put, List.getElem_toArray, List.getElem_cons_zero, List.getElem_cons_succ, List.setIfInBounds_toArray, List.set_cons_zero, List.set_cons_succ])
  refine wpAnyJ_take0 (i := 13) (v := undef) rfl (by kernel_rfl) (by kernel_rfl) (by kernel_rfl) (fun _ _ _ h => h) (Or.inr ⟨by rfl, rfl⟩) ?_
  (try simp only [Act.put, List.getElem_toArray, List.getElem_cons_zero, List.getElem_cons_succ, List.setIfInBounds_toArray, List.set_cons_zero, List.set_cons_succ])
  refine wpAnyJ_take0 (i := 14) (v := undef) rfl (by kernel_rfl) (by kernel_rfl) (by kernel_rfl) (fun _ _ _ h => h) (Or.inr ⟨by rfl, rfl⟩) ?_
  (try simp only [Act.put, List.getElem_toArray, List.getElem_cons_zero, List.getElem_cons_succ, List.setIfInBounds_toArray, List.set_cons_zero, List.set_cons_succ])
  refine wpAnyJ_take0 (i := 15) (v := undef) rfl (by kernel_rfl) (by kernel_rfl) (by kernel_rfl) (fun _ _ _ h => h) (Or.inr ⟨by rfl, rfl⟩) ?_
  (try simp only [Act.put, List.getElem_toArray, List.getElem_cons_zero, List.getElem_cons_succ, List.setIfInBounds_toArray, List.set_cons_zero, List.set_cons_succ])
  refine wpAnyJ_take0 (i := 16) (v := undef) rfl (by kernel_rfl) (by kernel_rfl) (by kernel_rfl) (fun _ _ _ h => h) (Or.inr ⟨by rfl, rfl⟩) ?_
  (try simp only [Act.put, List.getElem_toArray, List.getElem_cons_zero, List.getElem_cons_succ, List.setIfInBounds_toArray, List.set_cons_zero, List.set_cons_succ])
  refine wpAnyJ_take0 (i := 17) (v := undef) rfl (by kernel_rfl) (by kernel_rfl) (by kernel_rfl) (fun _ _ _ h => h) (Or.inr ⟨by rfl, rfl⟩) ?_
  (try simp only [Act.put, List.getElem_toArray, List.getElem_cons_zero, List.getElem_cons_succ, List.setIfInBounds_toArray, List.set_cons_zero, List.set_cons_succ])
  refine wpAnyJ_take0 (i := 18) (v := undef) rfl (by kernel_rfl) (by kernel_rfl) (by kernel_rfl) (fun _ _ _ h => h) (Or.inr ⟨by rfl, rfl⟩) ?_
  (try simp only [Act.put, List.getElem_toArray, List.getElem_cons_zero, List.getElem_cons_succ, List.setIfInBounds_toArray, List.set_cons_zero, List.set_cons_succ])
  refine wpAnyJ_take0 (i := 19) (v := undef) rfl (by kernel_rfl) (by kernel_rfl) (by kernel_rfl) (fun _ _ _ h => h) (Or.inr ⟨by rfl, rfl⟩) ?_
  (try simp only [Act.put, List.getElem_toArray, List.getElem_cons_zero, List.getElem_cons_succ, List.setIfInBounds_toArray, List.set_cons_zero, List.set_cons_succ])
  refine wpAnyJ_take0 (i := 20) (v := undef) rfl (by kernel_rfl) (by kernel_rfl) (by kernel_rfl) (fun _ _ _ h => h) (Or.inr ⟨by rfl, rfl⟩) ?_
  (try simp only [Act.put, List.getElem_toArray, List.getElem_cons_zero, List.getElem_cons_succ, List.setIfInBounds_toArray, List.set_cons_zero, List.set_cons_succ])
  refine wpAnyJ_take0 (i := 21) (v := undef) rfl (by kernel_rfl) (by kernel_rfl) (by kernel_rfl) (fun _ _ _ h => h) (Or.inr ⟨by rfl, rfl⟩) ?_
  (try simp only [Act.put, List.getElem_toArray, List.getElem_cons_zero, List.getElem_cons_succ, List.setIfInBounds_toArray, List.set_cons_zero, List.set_cons_succ])
  refine wpAnyJ_take0 (i := 22) (v := undef) rfl (by kernel_rfl) (by kernel_rfl) (by kernel_rfl) (fun _ _ _ h => h) (Or.inr ⟨by rfl, rfl⟩) ?_
  (try simp only [Act.put, List.getElem_toArray, List.getElem_cons_zero, List.getElem_cons_succ, List.setIfInBounds_toArray, List.set_cons_zero, List.set_cons_succ])
  refine wpAnyJ_take0 (i := 23) (v := undef) rfl (by kernel_rfl) (by kernel_rfl) (by kernel_rfl) (fun _ _ _ h => h) (Or.inr ⟨by rfl, rfl⟩) ?_
  (try simp only [Act.put, List.getElem_toArray, List.getElem_cons_zero, List.getElem_cons_succ, List.setIfInBounds_toArray, List.set_cons_zero, List.set_cons_succ])
  refine wpAnyJ_take0 (i := 24) (v := undef) rfl (by kernel_rfl) (by kernel_rfl) (by kernel_rfl) (fun _ _ _ h => h) (Or.inr ⟨by rfl, rfl⟩) ?_
  (try simp only [Act.put, List.getElem_toArray, List.getElem_cons_zero, List.getElem_cons_succ, List.setIfInBounds_toArray, List.set_cons_zero, List.set_cons_succ])
  refine wpAnyJ_take0 (i := 25) (v := ?_) rfl (by kernel_rfl) (by kernel_rfl) (by kernel_rfl) (fun _ _ _ h => h) (Or.inl ⟨by rfl, ?_⟩) ?_
  rotate_left
  focus ((intro w hSw; clear hSw; go_simp); try with_reducible rfl)
  (try simp only [Act.put, List.getElem_toArray, List.getElem_cons_zero, List.getElem_cons_succ, List.setIfInBounds_toArray, List.set_cons_zero, List.set_cons_succ])
  refine wpAnyJ_take0 (i := 26) (v := ?_) rfl (by kernel_rfl) (by kernel_rfl) (by kernel_rfl) (fun _ _ _ h => h) (Or.inl ⟨by rfl, ?_⟩) ?_
  rotate_left
  focus ((intro w hSw; clear hSw; go_simp); try with_reducible rfl)
  (try simp only [Act.put, List.getElem_toArray, List.getElem_cons_zero, List.getElem_cons_succ, List.setIfInBounds_toArray, List.set_cons_zero, List.set_cons_succ])
  refine wpAnyJ_done (by kernel_rfl) ?_ _
  refine NoPanic.normal ?_
  go_wp2_with fail
  refine (HH.out w.drew.drew.drew ⟨rfl, rfl, rfl, rfl⟩).mono ?_
  rintro e w' ⟨rfl, hq⟩
  have HQ := Lib.hid hq
  clear hq
  go_wp2_with fail
  exact ⟨rfl, _, results_none rfl _ _ _, rfl, HQ.out⟩
set_option maxRecDepth 100000 in
set_option maxHeartbeats 16000000 in
theorem mend_join0 {w : World} {p tb i j m c3 g3 pk pl pr L lk ll lr ck cl cr : Nat} {ak al ar : Option Addr} {Q : World → Prop} (dn : w.cell? ⟨p, 2, none⟩ = some (.slice (some ⟨g3, 0, none⟩) m c3)) (hi : i < m) (hm : m ≤ 1000)
    (ki : w.cell? ⟨g3, i, none⟩ = some (.pointer (some ⟨pk, 0, none⟩))) (dk : w.cell? ⟨pk, 0, none⟩ = some (.slice ak lk ck))
    (hl : ∀ W, Same4 w W → Calls Try.prog 48 #[.pointer (some ⟨tb, 0, none⟩), .pointer (some ⟨pk, 0, none⟩)] W fun e w' => e = .returned (.int .i64 L) ∧ W = w')
    (hk : lk < L) (hi00 : i = 0) (him : i + 1 < m) (kr : w.cell? ⟨g3, i + 1, none⟩ = some (.pointer (some ⟨pr, 0, none⟩))) (dr : w.cell? ⟨pr, 0, none⟩ = some (.slice ar lr cr)) (hg2 : lr ≤ L)
    (H : ∀ W, Same4 w W → Calls Try.prog 63 #[.pointer (some ⟨p, 0, none⟩), .int .i64 i] W fun e w' => e = .returned (.tuple #[]) ∧ Q w') :
    Calls Try.prog 54 #[.pointer (some ⟨tb, 0, none⟩), .pointer (some ⟨p, 0, none⟩), .int .i64 i] w (fun e w' => e = .returned (.tuple #[]) ∧ Q w') := by
  have HL := Lib.hid hl
  have HH := Lib.hid H
  have hi' : (i : Int) < m := by omega
  have hi0 : (0 : Int) ≤ i := by omega
  have hwp : IntKind.i64.wrap ((i : Int) + 1) = (i : Int) + 1 := IntWalk.i64_in _ (by omega)
  have hnn : ((i : Int) + 1).toNat = i + 1 := by omega
  have hi1 : (0 : Int) ≤ (i : Int) + 1 := by omega
  have hk2 : ¬ (L : Int) ≤ lk := by omega
  have hg2' : ¬ (L : Int) < lr := by omega
  have hip : ¬ 0 < i := by omega
  have him' : (i : Int) + 1 < m := by omega
  clear him
  clear hi00
  clear hl H
  go_enter Try.func54, Try.ntmps54
  go_wp2_with fail
  refine wp_region_noPanic ?_
  refine wp_region_J (S := fun u : World => u.cell? ⟨pk, 0, none⟩ = some (.slice ak lk ck)) (fun _ => false) (by kernel_rfl) ?_
  have hHeld : (fun u : World => u.cell? ⟨pk, 0, none⟩ = some (.slice ak lk ck)) w.drew := dk
  refine wpAnyJ_take0 (i := 0) (v := ?_) rfl (by kernel_rfl) (by kernel_rfl) (by kernel_rfl) (fun _ _ _ h => h) (Or.inl ⟨by rfl, ?_⟩) ?_
  rotate_left
  focus ((intro w hSw; clear hSw; go_simp); try with_reducible rfl)
  (try simp only [Act.put, List.getElem_toArray, List.getElem_cons_zero, List.getElem_cons_succ, List.setIfInBounds_toArray, List.set_cons_zero, List.set_cons_succ])
  refine wpAnyJ_take0 (i := 1) (v := ?_) rfl (by kernel_rfl) (by kernel_rfl) (by kernel_rfl) (fun _ _ _ h => h) (Or.inl ⟨by rfl, ?_⟩) ?_
  rotate_left
  focus ((intro w hSw; clear hSw; go_simp); try with_reducible rfl)
  (try simp only [Act.put, List.getElem_toArray, List.getElem_cons_zero, List.getElem_cons_succ, List.setIfInBounds_toArray, List.set_cons_zero, List.set_cons_succ])
  refine wpAnyJ_take0 (i := 2) (v := ?_) rfl (by kernel_rfl) (by kernel_rfl) (by kernel_rfl) (fun _ _ _ h => h) (Or.inl ⟨by rfl, ?_⟩) ?_
  rotate_left
  focus ((intro w hSw; clear hSw; go_simp); try with_reducible rfl)
  (try simp only [Act.put, List.getElem_toArray, List.getElem_cons_zero, List.getElem_cons_succ, List.setIfInBounds_toArray, List.set_cons_zero, List.set_cons_succ])
  refine wpAnyJ_take (i := 3) (v := ?_) rfl (by kernel_rfl) (by kernel_rfl) (by kernel_rfl) (by kernel_rfl) (fun _ _ _ h => h) (Or.inl ⟨by rfl, ?_⟩) (by assumption) ?_
  rotate_left
  focus ((intro w hSw; (try dsimp only at hSw); go_simp); try with_reducible rfl)
  (try simp only [Act.put, List.getElem_toArray, List.getElem_cons_zero, List.getElem_cons_succ, List.setIfInBounds_toArray, List.set_cons_zero, List.set_cons_succ])
  refine wpAnyJ_take0 (i := 4) (v := ?_) rfl (by kernel_rfl) (by kernel_rfl) (by kernel_rfl) (fun _ _ _ h => h) (Or.inl ⟨by rfl, ?_⟩) ?_
  rotate_left
  focus ((intro w hSw; clear hSw; go_simp); try with_reducible rfl)
  (try simp only [Act.put, List.getElem_toArray, List.getElem_cons_zero, List.getElem_cons_succ, List.setIfInBounds_toArray, List.set_cons_zero, List.set_cons_succ])
  refine wpAnyJ_take0 (i := 5) (v := ?_) rfl (by kernel_rfl) (by kernel_rfl) (by kernel_rfl) (fun _ _ _ h => h) (Or.inl ⟨by rfl, ?_⟩) ?_
  rotate_left
  focus ((intro w hSw; clear hSw; go_simp); try with_reducible rfl)
  (try simp only [Act.put, List.getElem_toArray, List.getElem_cons_zero, List.getElem_cons_succ, List.setIfInBounds_toArray, List.set_cons_zero, List.set_cons_succ])
  refine wpAnyJ_take0 (i := 6) (v := ?_) rfl (by kernel_rfl) (by kernel_rfl) (by kernel_rfl) (fun _ _ _ h => h) (Or.inl ⟨by rfl, ?_⟩) ?_
  rotate_left
  focus ((intro w hSw; clear hSw; go_simp); try with_reducible rfl)
  (try simp only [Act.put, List.getElem_toArray, List.getElem_cons_zero, List.getElem_cons_succ, List.setIfInBounds_toArray, List.set_cons_zero, List.set_cons_succ])
  refine wpAnyJ_ready (rs := [7]) (by kernel_rfl) (by simp) ?_
  refine AllReadyJ.cons rfl (fun KK hKK => ?_) AllReadyJ.nil
  go_simp
  go_at_call 48
  refine (HL.out w.drew ⟨rfl, rfl, rfl, rfl⟩).mono ?_
  rintro e u1 ⟨rfl, rfl⟩
  refine hKK.out _ _ (fun _ h => h) ?_
  clear hKK KK
  (try simp only [Act.put, List.getElem_toArray, List.getElem_cons_zero, List.getElem_cons_succ, List.setIfInBounds_toArray, List.set_cons_zero, List.set_cons_succ])
  refine wpAnyJ_take0 (i := 8) (v := ?_) rfl (by kernel_rfl) (by kernel_rfl) (by kernel_rfl) (fun _ _ _ h => h) (Or.inl ⟨by rfl, ?_⟩) ?_
  rotate_left
  focus ((intro w hSw; clear hSw; go_simp); try with_reducible rfl)
  (try simp only [Act.put, List.getElem_toArray, List.getElem_cons_zero, List.getElem_cons_succ, List.setIfInBounds_toArray, List.set_cons_zero, List.set_cons_succ])
  refine wpAnyJ_done (by kernel_rfl) ?_ _
  refine NoPanic.normal ?_
  go_wp2_with fail
  refine wp_region_noPanic ?_
  refine wp_region_J (S := fun u : World => u.cell? ⟨p, 2, none⟩ = some (.slice (some ⟨g3, 0, none⟩) m c3)) (fun _ => false) (by kernel_rfl) ?_
  have hHeld : (fun u : World => u.cell? ⟨p, 2, none⟩ = some (.slice (some ⟨g3, 0, none⟩) m c3)) w.drew.drew := dn
  refine wpAnyJ_take0 (i := 0) (v := ?_) rfl (by kernel_rfl) (by kernel_rfl) (by kernel_rfl) (fun _ _ _ h => h) (Or.inl ⟨by rfl, ?_⟩) ?_
  rotate_left
  focus ((intro w hSw; clear hSw; go_simp); try with_reducible rfl)
  (try simp only [Act.put, List.getElem_toArray, List.getElem_cons_zero, List.getElem_cons_succ, List.setIfInBounds_toArray, List.set_cons_zero, List.set_cons_succ])
  refine wpAnyJ_take0 (i := 1) (v := ?_) rfl (by kernel_rfl) (by kernel_rfl) (by kernel_rfl) (fun _ _ _ h => h) (Or.inl ⟨by rfl, ?_⟩) ?_
  rotate_left
  focus ((intro w hSw; clear hSw; go_simp); try with_reducible rfl)
  (try simp only [Act.put, List.getElem_toArray, List.getElem_cons_zero, List.getElem_cons_succ, List.setIfInBounds_toArray, List.set_cons_zero, List.set_cons_succ])
  refine wpAnyJ_take0 (i := 2) (v := ?_) rfl (by kernel_rfl) (by kernel_rfl) (by kernel_rfl) (fun _ _ _ h => h) (Or.inl ⟨by rfl, ?_⟩) ?_
  rotate_left
  focus ((intro w hSw; clear hSw; go_simp); try with_reducible rfl)
  (try simp only [Act.put, List.getElem_toArray, List.getElem_cons_zero, List.getElem_cons_succ, List.setIfInBounds_toArray, List.set_cons_zero, List.set_cons_succ])
  refine wpAnyJ_take0 (i := 3) (v := undef) rfl (by kernel_rfl) (by kernel_rfl) (by kernel_rfl) (fun _ _ _ h => h) (Or.inr ⟨by rfl, rfl⟩) ?_
  (try simp only [Act.put, List.getElem_toArray, List.getElem_cons_zero, List.getElem_cons_succ, List.setIfInBounds_toArray, List.set_cons_zero, List.set_cons_succ])
  refine wpAnyJ_take0 (i := 4) (v := undef) rfl (by kernel_rfl) (by kernel_rfl) (by kernel_rfl) (fun _ _ _ h => h) (Or.inr ⟨by rfl, rfl⟩) ?_
  (try simp only [Act.put, List.getElem_toArray, List.getElem_cons_zero, List.getElem_cons_succ, List.setIfInBounds_toArray, List.set_cons_zero, List.set_cons_succ])
  refine wpAnyJ_take0 (i := 5) (v := undef) rfl (by kernel_rfl) (by kernel_rfl) (by kernel_rfl) (fun _ _ _ h => h) (Or.inr ⟨by rfl, rfl⟩) ?_
  (try simp only [Act.put, List.getElem_toArray, List.getElem_cons_zero, List.getElem_cons_succ, List.setIfInBounds_toArray, List.set_cons_zero, List.set_cons_succ])
  refine wpAnyJ_take0 (i := 6) (v := undef) rfl (by kernel_rfl) (by kernel_rfl) (by kernel_rfl) (fun _ _ _ h => h) (Or.inr ⟨by rfl, rfl⟩) ?_
  (try simp only [Act.put, List.getElem_toArray, List.getElem_cons_zero, List.getElem_cons_succ, List.setIfInBounds_toArray, List.set_cons_zero, List.set_cons_succ])
  refine wpAnyJ_take0 (i := 7) (v := undef) rfl (by kernel_rfl) (by kernel_rfl) (by kernel_rfl) (fun _ _ _ h => h) (Or.inr ⟨by rfl, rfl⟩) ?_
  (try simp only [Act.put, List.getElem_toArray, List.getElem_cons_zero, List.getElem_cons_succ, List.setIfInBounds_toArray, List.set_cons_zero, List.set_cons_succ])
  refine wpAnyJ_take0 (i := 8) (v := undef) rfl (by kernel_rfl) (by kernel_rfl) (by kernel_rfl) (fun _ _ _ h => h) (Or.inr ⟨by rfl, rfl⟩) ?_
  (try simp only [Act.put, List.getElem_toArray, List.getElem_cons_zero, List.getElem_cons_succ, List.setIfInBounds_toArray, List.set_cons_zero, List.set_cons_succ])
  refine wpAnyJ_take0 (i := 9) (v := undef) rfl (by kernel_rfl) (by kernel_rfl) (by kernel_rfl) (fun _ _ _ h => h) (Or.inr ⟨by rfl, rfl⟩) ?_
  (try simp only [Act.put, List.getElem_toArray, List.getElem_cons_zero, List.getElem_cons_succ, List.setIfInBounds_toArray, List.set_cons_zero, List.set_cons_succ])
  refine wpAnyJ_take0 (i := 10) (v := undef) rfl (by kernel_rfl) (by kernel_rfl) (by kernel_rfl) (fun _ _ _ h => h) (Or.inr ⟨by rfl, rfl⟩) ?_
  (try simp only [Act.put, List.getElem_toArray, List.getElem_cons_zero, List.getElem_cons_succ, List.setIfInBounds_toArray, List.set_cons_zero, List.set_cons_succ])
  refine wpAnyJ_take0 (i := 11) (v := undef) rfl (by kernel_rfl) (by kernel_rfl) (by kernel_rfl) (fun _ _ _ h => h) (Or.inr ⟨by rfl, rfl⟩) ?_
  (try simp only [Act.put, List.getElem_toArray, List.getElem_cons_zero, List.getElem_cons_succ, List.setIfInBounds_toArray, List.set_cons_zero, List.set_cons_succ])
  refine wpAnyJ_take0 (i := 12) (v := undef) rfl (by kernel_rfl) (by kernel_rfl) (by kernel_rfl) (fun _ _ _ h => h) (Or.inr ⟨by rfl, rfl⟩) ?_
  (try simp only [Act.put, List.getElem_toArray, List.getElem_cons_zero, List.getElem_cons_succ, List.setIfInBounds_toArray, List.set_cons_zero, List.set_cons_succ])
  refine wpAnyJ_take0 (i := 13) (v := undef) rfl (by kernel_rfl) (by kernel_rfl) (by kernel_rfl) (fun _ _ _ h => h) (Or.inr ⟨by rfl, rfl⟩) ?_
  (try simp only [Act.put, List.getElem_toArray, List.getElem_cons_zero, List.getElem_cons_succ, List.setIfInBounds_toArray, List.set_cons_zero, List.set_cons_succ])
  refine wpAnyJ_take0 (i := 14) (v := undef) rfl (by kernel_rfl) (by kernel_rfl) (by kernel_rfl) (fun _ _ _ h => h) (Or.inr ⟨by rfl, rfl⟩) ?_
  (try simp only [Act.put, List.getElem_toArray, List.getElem_cons_zero, List.getElem_cons_succ, List.setIfInBounds_toArray, List.set_cons_zero, List.set_cons_succ])
  refine wpAnyJ_take0 (i := 15) (v := undef) rfl (by kernel_rfl) (by kernel_rfl) (by kernel_rfl) (fun _ _ _ h => h) (Or.inr ⟨by rfl, rfl⟩) ?_
  (try simp only [Act.put, List.getElem_toArray, List.getElem_cons_zero, List.getElem_cons_succ, List.setIfInBounds_toArray, List.set_cons_zero, List.set_cons_succ])
  refine wpAnyJ_take0 (i := 16) (v := undef) rfl (by kernel_rfl) (by kernel_rfl) (by kernel_rfl) (fun _ _ _ h => h) (Or.inr ⟨by rfl, rfl⟩) ?_
  (try simp only [Act.put, List.getElem_toArray, List.getElem_cons_zero, List.getElem_cons_succ, List.setIfInBounds_toArray, List.set_cons_zero, List.set_cons_succ])
  refine wpAnyJ_take0 (i := 17) (v := undef) rfl (by kernel_rfl) (by kernel_rfl) (by kernel_rfl) (fun _ _ _ h => h) (Or.inr ⟨by rfl, rfl⟩) ?_
  (try simp only [Act.put, List.getElem_toArray, List.getElem_cons_zero, List.getElem_cons_succ, List.setIfInBounds_toArray, List.set_cons_zero, List.set_cons_succ])
  refine wpAnyJ_take0 (i := 18) (v := undef) rfl (by kernel_rfl) (by kernel_rfl) (by kernel_rfl) (fun _ _ _ h => h) (Or.inr ⟨by rfl, rfl⟩) ?_
  (try simp only [Act.put, List.getElem_toArray, List.getElem_cons_zero, List.getElem_cons_succ, List.setIfInBounds_toArray, List.set_cons_zero, List.set_cons_succ])
  refine wpAnyJ_take0 (i := 19) (v := ?_) rfl (by kernel_rfl) (by kernel_rfl) (by kernel_rfl) (fun _ _ _ h => h) (Or.inl ⟨by rfl, ?_⟩) ?_
  rotate_left
  focus ((intro w hSw; clear hSw; go_simp); try with_reducible rfl)
  (try simp only [Act.put, List.getElem_toArray, List.getElem_cons_zero, List.getElem_cons_succ, List.setIfInBounds_toArray, List.set_cons_zero, List.set_cons_succ])
  refine wpAnyJ_take0 (i := 20) (v := ?_) rfl (by kernel_rfl) (by kernel_rfl) (by kernel_rfl) (fun _ _ _ h => h) (Or.inl ⟨by rfl, ?_⟩) ?_
  rotate_left
  focus ((intro w hSw; clear hSw; go_simp); try with_reducible rfl)
  (try simp only [Act.put, List.getElem_toArray, List.getElem_cons_zero, List.getElem_cons_succ, List.setIfInBounds_toArray, List.set_cons_zero, List.set_cons_succ])
  refine wpAnyJ_done (by kernel_rfl) ?_ _
  refine NoPanic.normal ?_
  go_wp2_with fail
  refine wp_region_noPanic ?_
  refine wp_region_J (S := fun u : World => u.cell? ⟨p, 2, none⟩ = some (.slice (some ⟨g3, 0, none⟩) m c3) ∧ u.cell? ⟨g3, i + 1, none⟩ = some (.pointer (some ⟨pr, 0, none⟩)) ∧ u.cell? ⟨pr, 0, none⟩ = some (.slice ar lr cr)) (fun _ => false) (by kernel_rfl) ?_
  have hHeld : (fun u : World => u.cell? ⟨p, 2, none⟩ = some (.slice (some ⟨g3, 0, none⟩) m c3) ∧ u.cell? ⟨g3, i + 1, none⟩ = some (.pointer (some ⟨pr, 0, none⟩)) ∧ u.cell? ⟨pr, 0, none⟩ = some (.slice ar lr cr)) w.drew.drew.drew := ⟨dn, kr, dr⟩
  refine wpAnyJ_take0 (i := 0) (v := ?_) rfl (by kernel_rfl) (by kernel_rfl) (by kernel_rfl) (fun _ _ _ h => h) (Or.inl ⟨by rfl, ?_⟩) ?_
  rotate_left
  focus ((intro w hSw; clear hSw; go_simp); try with_reducible rfl)
  (try simp only [Act.put, List.getElem_toArray, List.getElem_cons_zero, List.getElem_cons_succ, List.setIfInBounds_toArray, List.set_cons_zero, List.set_cons_succ])
  refine wpAnyJ_take0 (i := 1) (v := ?_) rfl (by kernel_rfl) (by kernel_rfl) (by kernel_rfl) (fun _ _ _ h => h) (Or.inl ⟨by rfl, ?_⟩) ?_
  rotate_left
  focus ((intro w hSw; clear hSw; go_simp); try with_reducible rfl)
  (try simp only [Act.put, List.getElem_toArray, List.getElem_cons_zero, List.getElem_cons_succ, List.setIfInBounds_toArray, List.set_cons_zero, List.set_cons_succ])
  refine wpAnyJ_take0 (i := 2) (v := ?_) rfl (by kernel_rfl) (by kernel_rfl) (by kernel_rfl) (fun _ _ _ h => h) (Or.inl ⟨by rfl, ?_⟩) ?_
  rotate_left
  focus ((intro w hSw; clear hSw; go_simp); try with_reducible rfl)
  (try simp only [Act.put, List.getElem_toArray, List.getElem_cons_zero, List.getElem_cons_succ, List.setIfInBounds_toArray, List.set_cons_zero, List.set_cons_succ])
  refine wpAnyJ_take0 (i := 3) (v := ?_) rfl (by kernel_rfl) (by kernel_rfl) (by kernel_rfl) (fun _ _ _ h => h) (Or.inl ⟨by rfl, ?_⟩) ?_
  rotate_left
  focus ((intro w hSw; clear hSw; go_simp); try with_reducible rfl)
  (try simp only [Act.put, List.getElem_toArray, List.getElem_cons_zero, List.getElem_cons_succ, List.setIfInBounds_toArray, List.set_cons_zero, List.set_cons_succ])
  refine wpAnyJ_take0 (i := 4) (v := ?_) rfl (by kernel_rfl) (by kernel_rfl) (by kernel_rfl) (fun _ _ _ h => h) (Or.inl ⟨by rfl, ?_⟩) ?_
  rotate_left
  focus ((intro w hSw; clear hSw; go_simp); try with_reducible rfl)
  (try simp only [Act.put, List.getElem_toArray, List.getElem_cons_zero, List.getElem_cons_succ, List.setIfInBounds_toArray, List.set_cons_zero, List.set_cons_succ])
  refine wpAnyJ_take (i := 5) (v := ?_) rfl (by kernel_rfl) (by kernel_rfl) (by kernel_rfl) (by kernel_rfl) (fun _ _ _ h => h) (Or.inl ⟨by rfl, ?_⟩) (by assumption) ?_
  rotate_left
  focus ((intro w hSw; (try dsimp only at hSw); go_simp); try with_reducible rfl)
  (try simp only [Act.put, List.getElem_toArray, List.getElem_cons_zero, List.getElem_cons_succ, List.setIfInBounds_toArray, List.set_cons_zero, List.set_cons_succ])
  refine wpAnyJ_take0 (i := 6) (v := ?_) rfl (by kernel_rfl) (by kernel_rfl) (by kernel_rfl) (fun _ _ _ h => h) (Or.inl ⟨by rfl, ?_⟩) ?_
  rotate_left
  focus ((intro w hSw; clear hSw; go_simp); try with_reducible rfl)
  (try simp only [Act.put, List.getElem_toArray, List.getElem_cons_zero, List.getElem_cons_succ, List.setIfInBounds_toArray, List.set_cons_zero, List.set_cons_succ])
  refine wpAnyJ_take0 (i := 7) (v := ?_) rfl (by kernel_rfl) (by kernel_rfl) (by kernel_rfl) (fun _ _ _ h => h) (Or.inl ⟨by rfl, ?_⟩) ?_
  rotate_left
  focus ((intro w hSw; clear hSw; go_simp); try with_reducible rfl)
  (try simp only [Act.put, List.getElem_toArray, List.getElem_cons_zero, List.getElem_cons_succ, List.setIfInBounds_toArray, List.set_cons_zero, List.set_cons_succ])
  refine wpAnyJ_take0 (i := 8) (v := ?_) rfl (by kernel_rfl) (by kernel_rfl) (by kernel_rfl) (fun _ _ _ h => h) (Or.inl ⟨by rfl, ?_⟩) ?_
  rotate_left
  focus ((intro w hSw; clear hSw; go_simp); try with_reducible rfl)
  (try simp only [Act.put, List.getElem_toArray, List.getElem_cons_zero, List.getElem_cons_succ, List.setIfInBounds_toArray, List.set_cons_zero, List.set_cons_succ])
  refine wpAnyJ_take0 (i := 9) (v := ?_) rfl (by kernel_rfl) (by kernel_rfl) (by kernel_rfl) (fun _ _ _ h => h) (Or.inl ⟨by rfl, ?_⟩) ?_
  rotate_left
  focus ((intro w hSw; clear hSw; go_simp); try with_reducible rfl)
  (try simp only [Act.put, List.getElem_toArray, List.getElem_cons_zero, List.getElem_cons_succ, List.setIfInBounds_toArray, List.set_cons_zero, List.set_cons_succ])
  refine wpAnyJ_take0 (i := 10) (v := ?_) rfl (by kernel_rfl) (by kernel_rfl) (by kernel_rfl) (fun _ _ _ h => h) (Or.inl ⟨by rfl, ?_⟩) ?_
  rotate_left
  focus ((intro w hSw; clear hSw; go_simp); try with_reducible rfl)
  (try simp only [Act.put, List.getElem_toArray, List.getElem_cons_zero, List.getElem_cons_succ, List.setIfInBounds_toArray, List.set_cons_zero, List.set_cons_succ])
  refine wpAnyJ_take0 (i := 11) (v := ?_) rfl (by kernel_rfl) (by kernel_rfl) (by kernel_rfl) (fun _ _ _ h => h) (Or.inl ⟨by rfl, ?_⟩) ?_
  rotate_left
  focus ((intro w hSw; clear hSw; go_simp); try with_reducible rfl)
  (try simp only [Act.put, List.getElem_toArray, List.getElem_cons_zero, List.getElem_cons_succ, List.setIfInBounds_toArray, List.set_cons_zero, List.set_cons_succ])
  refine wpAnyJ_take (i := 12) (v := ?_) rfl (by kernel_rfl) (by kernel_rfl) (by kernel_rfl) (by kernel_rfl) (fun _ _ _ h => h) (Or.inl ⟨by rfl, ?_⟩) (by assumption) ?_
  rotate_left
  focus ((intro w hSw; (try dsimp only at hSw); go_simp); try with_reducible rfl)
  (try simp only [Act.put, List.getElem_toArray, List.getElem_cons_zero, List.getElem_cons_succ, List.setIfInBounds_toArray, List.set_cons_zero, List.set_cons_succ])
  refine wpAnyJ_take0 (i := 13) (v := ?_) rfl (by kernel_rfl) (by kernel_rfl) (by kernel_rfl) (fun _ _ _ h => h) (Or.inl ⟨by rfl, ?_⟩) ?_
  rotate_left
  focus ((intro w hSw; clear hSw; go_simp); try with_reducible rfl)
  (try simp only [Act.put, List.getElem_toArray, List.getElem_cons_zero, List.getElem_cons_succ, List.setIfInBounds_toArray, List.set_cons_zero, List.set_cons_succ])
  refine wpAnyJ_take0 (i := 14) (v := ?_) rfl (by kernel_rfl) (by kernel_rfl) (by kernel_rfl) (fun _ _ _ h => h) (Or.inl ⟨by rfl, ?_⟩) ?_
  rotate_left
  focus ((intro w hSw; clear hSw; go_simp); try with_reducible rfl)
  (try simp only [Act.put, List.getElem_toArray, List.getElem_cons_zero, List.getElem_cons_succ, List.setIfInBounds_toArray, List.set_cons_zero, List.set_cons_succ])
  refine wpAnyJ_take0 (i := 15) (v := ?_) rfl (by kernel_rfl) (by kernel_rfl) (by kernel_rfl) (fun _ _ _ h => h) (Or.inl ⟨by rfl, ?_⟩) ?_
  rotate_left
  focus ((intro w hSw; clear hSw; go_simp); try with_reducible rfl)
  (try simp only [Act.put, List.getElem_toArray, List.getElem_cons_zero, List.getElem_cons_succ, List.setIfInBounds_toArray, List.set_cons_zero, List.set_cons_succ])
  refine wpAnyJ_take (i := 16) (v := ?_) rfl (by kernel_rfl) (by kernel_rfl) (by kernel_rfl) (by kernel_rfl) (fun _ _ _ h => h) (Or.inl ⟨by rfl, ?_⟩) (by assumption) ?_
  rotate_left
  focus ((intro w hSw; (try dsimp only at hSw); go_simp); try with_reducible rfl)
  (try simp only [Act.put, List.getElem_toArray, List.getElem_cons_zero, List.getElem_cons_succ, List.setIfInBounds_toArray, List.set_cons_zero, List.set_cons_succ])
  refine wpAnyJ_take0 (i := 17) (v := ?_) rfl (by kernel_rfl) (by kernel_rfl) (by kernel_rfl) (fun _ _ _ h => h) (Or.inl ⟨by rfl, ?_⟩) ?_
  rotate_left
  focus ((intro w hSw; clear hSw; go_simp); try with_reducible rfl)
  (try simp only [Act.put, List.getElem_toArray, List.getElem_cons_zero, List.getElem_cons_succ, List.setIfInBounds_toArray, List.set_cons_zero, List.set_cons_succ])
  refine wpAnyJ_take0 (i := 18) (v := ?_) rfl (by kernel_rfl) (by kernel_rfl) (by kernel_rfl) (fun _ _ _ h => h) (Or.inl ⟨by rfl, ?_⟩) ?_
  rotate_left
  focus ((intro w hSw; clear hSw; go_simp); try with_reducible rfl)
  (try simp only [Act.put, List.getElem_toArray, List.getElem_cons_zero, List.getElem_cons_succ, List.setIfInBounds_toArray, List.set_cons_zero, List.set_cons_succ])
  refine wpAnyJ_take (i := 19) (v := ?_) rfl (by kernel_rfl) (by kernel_rfl) (by kernel_rfl) (by kernel_rfl) (fun _ _ _ h => h) (Or.inl ⟨by rfl, ?_⟩) (by assumption) ?_
  rotate_left
  focus ((intro w hSw; (try dsimp only at hSw); go_simp); try with_reducible rfl)
  (try simp only [Act.put, List.getElem_toArray, List.getElem_cons_zero, List.getElem_cons_succ, List.setIfInBounds_toArray, List.set_cons_zero, List.set_cons_succ])
  refine wpAnyJ_take0 (i := 20) (v := ?_) rfl (by kernel_rfl) (by kernel_rfl) (by kernel_rfl) (fun _ _ _ h => h) (Or.inl ⟨by rfl, ?_⟩) ?_
  rotate_left
  focus ((intro w hSw; clear hSw; go_simp); try with_reducible rfl)
  (try simp only [Act.put, List.getElem_toArray, List.getElem_cons_zero, List.getElem_cons_succ, List.setIfInBounds_toArray, List.set_cons_zero, List.set_cons_succ])
  refine wpAnyJ_take0 (i := 21) (v := ?_) rfl (by kernel_rfl) (by kernel_rfl) (by kernel_rfl) (fun _ _ _ h => h) (Or.inl ⟨by rfl, ?_⟩) ?_
  rotate_left
  focus ((intro w hSw; clear hSw; go_simp); try with_reducible rfl)
  (try simp only [Act.put, List.getElem_toArray, List.getElem_cons_zero, List.getElem_cons_succ, List.setIfInBounds_toArray, List.set_cons_zero, List.set_cons_succ])
  refine wpAnyJ_take0 (i := 22) (v := ?_) rfl (by kernel_rfl) (by kernel_rfl) (by kernel_rfl) (fun _ _ _ h => h) (Or.inl ⟨by rfl, ?_⟩) ?_
  rotate_left
  focus ((intro w hSw; clear hSw; go_simp); try with_reducible rfl)
  (try simp only [Act.put, List.getElem_toArray, List.getElem_cons_zero, List.getElem_cons_succ, List.setIfInBounds_toArray, List.set_cons_zero, List.set_cons_succ])
  refine wpAnyJ_ready (rs := [23]) (by kernel_rfl) (by simp) ?_
  refine AllReadyJ.cons rfl (fun KK hKK => ?_) AllReadyJ.nil
  go_simp
  go_at_call 48
  refine (HL.out w.drew.drew.drew ⟨rfl, rfl, rfl, rfl⟩).mono ?_
  rintro e u1 ⟨rfl, rfl⟩
  refine hKK.out _ _ (fun _ h => h) ?_
  clear hKK KK
  (try simp only [Act.put, List.getElem_toArray, List.getElem_cons_zero, List.getElem_cons_succ, List.setIfInBounds_toArray, List.set_cons_zero, List.set_cons_succ])
  refine wpAnyJ_take0 (i := 24) (v := ?_) rfl (by kernel_rfl) (by kernel_rfl) (by kernel_rfl) (fun _ _ _ h => h) (Or.inl ⟨by rfl, ?_⟩) ?_
  rotate_left
  focus ((intro w hSw; clear hSw; go_simp); try with_reducible rfl)
  (try simp only [Act.put, List.getElem_toArray, List.getElem_cons_zero, List.getElem_cons_succ, List.setIfInBounds_toArray, List.set_cons_zero, List.set_cons_succ])
  refine wpAnyJ_take0 (i := 25) (v := ?_) rfl (by kernel_rfl) (by kernel_rfl) (by kernel_rfl) (fun _ _ _ h => h) (Or.inl ⟨by rfl, ?_⟩) ?_
  rotate_left
  focus ((intro w hSw; clear hSw; go_simp); try with_reducible rfl)
  (try simp only [Act.put, List.getElem_toArray, List.getElem_cons_zero, List.getElem_cons_succ, List.setIfInBounds_toArray, List.set_cons_zero, List.set_cons_succ])
  refine wpAnyJ_take0 (i := 26) (v := ?_) rfl (by kernel_rfl) (by kernel_rfl) (by kernel_rfl) (fun _ _ _ h => h) (Or.inl ⟨by rfl, ?_⟩) ?_
  rotate_left
  focus ((intro w hSw; clear hSw; go_simp); try with_reducible rfl)
  (try simp only [Act.put, List.getElem_toArray, List.getElem_cons_zero, List.getElem_cons_succ, List.setIfInBounds_toArray, List.set_cons_zero, List.set_cons_succ])
  refine wpAnyJ_done (by kernel_rfl) ?_ _
  refine NoPanic.normal ?_
  go_wp2_with fail
  refine (HH.out w.drew.drew.drew ⟨rfl, rfl, rfl, rfl⟩).mono ?_
  rintro e w' ⟨rfl, hq⟩
  have HQ := Lib.hid hq
  clear hq
  go_wp2_with fail
  exact ⟨rfl, _, results_none rfl _ _ _, rfl, HQ.out⟩
end Go.Proofs.Ytjoopjmcnkiieaa

/- put and del at a fork: the walks. Conditions: the fork is there, its keys rise. -/
namespace Go.Proofs.Ytjoopjmcnkiieaa
open Go.RowKit Go.Lib
set_option linter.unusedSimpArgs false
set_option linter.unusedVariables false

set_option maxRecDepth 100000 in
set_option maxHeartbeats 16000000 in
theorem put_fork {w : World} {p tb : Nat} {v1 v2 v3 : Value} {K : List ByteArray} {C : List Nat} {key : ByteArray} {x : Int} {R : Bool → World → Prop} (h : NodeAt w p v1 v2 v3 K [] C) (h1 : ∀ k, ow p v1 v2 v3 k ≤ 1) (hs : SortedS K) (hl : K.length ≤ 1000) (hC : C.length = K.length + 1)
    (hput : ∀ i, ChildP K key i → ∃ pk, C[i]? = some pk ∧ Calls Try.prog 30 #[.pointer (some ⟨tb, 0, none⟩), .pointer (some ⟨pk, 0, none⟩), .string key, .int .i64 x] w fun e w1 => ∃ was, e = .returned (.bool was) ∧ NodeAt w1 p v1 v2 v3 K [] C ∧
      Calls Try.prog 31 #[.pointer (some ⟨tb, 0, none⟩), .pointer (some ⟨pk, 0, none⟩)] w1 fun e2 w2 => (e2 = .returned (.tuple #[.pointer none, .string ⟨#[]⟩]) ∧ R was w2) ∨
        ∃ q key', e2 = .returned (.tuple #[.pointer (some ⟨q, 0, none⟩), .string key']) ∧ NodeAt w2 p v1 v2 v3 K [] C ∧ ∀ w3 v1' v3', NodeAt w3 p v1' v2 v3' (insAt K i key') [] (insAt C (i + 1) q) → Fr (ow p v1 v2 v3) (ow p v1' v2 v3') w2 w3 → R was w3) :
    Calls Try.prog 30 #[.pointer (some ⟨tb, 0, none⟩), .pointer (some ⟨p, 0, none⟩), .string key, .int .i64 x] w fun e w' => ∃ was, e = .returned (.bool was) ∧ R was w' := by
  have HL := leaf_any h
  rw [show C.isEmpty = false from by cases C with | nil => simp at hC | cons _ _ => rfl] at HL
  have HL := Lib.hid HL
  have HC := Lib.hid (child_any h key hs (by omega))
  have HPUT := Lib.hid hput
  obtain ⟨a1, c1, a2, c2, a3, c3, rfl, rfl, rfl, l1, _, l3, m1, _, m3⟩ := h.forms
  simp only [List.length_nil] at *
  obtain ⟨pk0, hk0⟩ : ∃ pk, C[0]? = some pk := get_some (by omega)
  obtain ⟨g3, rfl, _, _⟩ := h.kid hk0
  obtain ⟨Q, hQ⟩ : ∃ Q, (fun (e : Ending) (w' : World) => ∃ was, e = .returned (.bool was) ∧ R was w') = Q := ⟨_, rfl⟩
  have HQ : Hid (∀ was w', R was w' → Q (.returned (.bool was)) w') := Lib.hid (by intro was w' hr; rw [← hQ]; exact ⟨was, rfl, hr⟩)
  rw [hQ]
  have HH := Lib.hid h
  have HO := Lib.hid h1
  have HCL := Lib.hid hC
  have d2 := h.cells.2.2.1
  generalize eN : K.length = n at *
  generalize eM : C.length = m at *
  have HN := Lib.hid eN
  have HM := Lib.hid eM
  clear h h1 hs hput hQ hk0 eN eM hC
  go_enter Try.func30, Try.ntmps30
  go_wp2_with fail
  refine HL.out.mono ?_; rintro e w' ⟨rfl, rfl⟩
  go_wp2_with fail
  refine HC.out.mono ?_; rintro e w' ⟨i, rfl, hcp, rfl⟩
  obtain ⟨pk, hk, hcall⟩ := HPUT.out i hcp
  have hil : i < m := by have := hcp.1; have := HCL.out; have := HN.out; omega
  have hil' : (i : Int) < m := by omega
  have hi0 : (0 : Int) ≤ i := by omega
  have HIN : Hid (i ≤ K.length ∧ K.length ≤ 1000000) := Lib.hid ⟨hcp.1, by have := HN.out; omega⟩
  have hw1 : IntKind.i64.wrap ((i : Int) + 1) = (i : Int) + 1 := IntWalk.i64_in _ (by omega)
  have HK := Lib.hid hk
  have HCALL := Lib.hid hcall
  obtain ⟨_, e9, ki, _⟩ := HH.out.kid hk
  injection e9 with e9
  injection e9 with e9 _
  subst e9
  clear hcp hk hcall
  go_wp2_with fail
  refine HCALL.out.mono ?_; rintro e w1 ⟨was, rfl, hN1, hsplit⟩
  have HSP := Lib.hid hsplit
  have d2 := hN1.cells.2.2.1
  obtain ⟨_, e9, ki, _⟩ := hN1.kid HK.out
  injection e9 with e9
  injection e9 with e9 _
  subst e9
  (try rw [HM.out] at d2)
  clear hsplit hN1
  go_wp2_with fail
  refine HSP.out.mono ?_; rintro e w2 (⟨rfl, hR⟩ | ⟨q, key', rfl, hN2, hfin⟩)
  · have HR := Lib.hid (HQ.out _ _ hR)
    clear hR
    go_wp2_with fail
    exact HR.out
  · have HFIN : Hid (∀ w3 v1' v3', NodeAt w3 p v1' (.slice a2 0 c2) v3' (insAt K i key') [] (insAt C (i + 1) q) → Fr (ow p (.slice a1 n c1) (.slice a2 0 c2) (.slice (some ⟨g3, 0, none⟩) m c3)) (ow p v1' (.slice a2 0 c2) v3') w2 w3 → Q (.returned (.bool was)) w3) := Lib.hid (fun w3 v1' v3' hn hf => HQ.out _ _ (hfin w3 v1' v3' hn hf))
    have HST := (St.start hN2 HO.out).drew
    (try rw [HN.out, HM.out] at HST)
    have HIC : Hid (i + 1 ≤ C.length ∧ C.length ≤ 1000000) := Lib.hid (by have := HM.out; have := HCL.out; have := HN.out; omega)
    clear hfin hN2
    go_wp2_with fail
    refine wp_region_noPanic ?_
    refine wp_region_J (S := fun u : World => u.cell? ⟨p, 0, none⟩ = some (.slice a1 n c1) ∧ u.cell? ⟨p, 2, none⟩ = some (.slice (some ⟨g3, 0, none⟩) m c3)) (fun j => j == 21 || j == 24) (by kernel_rfl) ?_
    obtain ⟨u0, hu0⟩ : ∃ u, w2.drew = u := ⟨_, rfl⟩
    rw [hu0] at HST ⊢
    clear hu0
    have hHeld : (fun u : World => u.cell? ⟨p, 0, none⟩ = some (.slice a1 n c1) ∧ u.cell? ⟨p, 2, none⟩ = some (.slice (some ⟨g3, 0, none⟩) m c3)) u0 := ⟨HST.cell.1, HST.cell.2.2.1⟩
    refine wpAnyJ_take0 (i := 0) (v := ?_) rfl (by kernel_rfl) (by kernel_rfl) (by kernel_rfl) (fun _ _ _ h => h) (Or.inl ⟨by rfl, ?_⟩) ?_
    rotate_left
    focus ((intro w hSw; clear hSw; go_simp); try with_reducible rfl)
    (try simp only [Act.put, List.getElem_toArray, List.getElem_cons_zero, List.getElem_cons_succ, List.setIfInBounds_toArray, List.set_cons_zero, List.set_cons_succ])
    refine wpAnyJ_take0 (i := 1) (v := ?_) rfl (by kernel_rfl) (by kernel_rfl) (by kernel_rfl) (fun _ _ _ h => h) (Or.inl ⟨by rfl, ?_⟩) ?_
    rotate_left
    focus ((intro w hSw; clear hSw; go_simp); try with_reducible rfl)
    (try simp only [Act.put, List.getElem_toArray, List.getElem_cons_zero, List.getElem_cons_succ, List.setIfInBounds_toArray, List.set_cons_zero, List.set_cons_succ])
    refine wpAnyJ_take0 (i := 2) (v := ?_) rfl (by kernel_rfl) (by kernel_rfl) (by kernel_rfl) (fun _ _ _ h => h) (Or.inl ⟨by rfl, ?_⟩) ?_
    rotate_left
    focus ((intro w hSw; clear hSw; go_simp); try with_reducible rfl)
    (try simp only [Act.put, List.getElem_toArray, List.getElem_cons_zero, List.getElem_cons_succ, List.setIfInBounds_toArray, List.set_cons_zero, List.set_cons_succ])
    refine wpAnyJ_take0 (i := 3) (v := ?_) rfl (by kernel_rfl) (by kernel_rfl) (by kernel_rfl) (fun _ _ _ h => h) (Or.inl ⟨by rfl, ?_⟩) ?_
    rotate_left
    focus ((intro w hSw; clear hSw; go_simp); try with_reducible rfl)
    (try simp only [Act.put, List.getElem_toArray, List.getElem_cons_zero, List.getElem_cons_succ, List.setIfInBounds_toArray, List.set_cons_zero, List.set_cons_succ])
    refine wpAnyJ_take0 (i := 4) (v := ?_) rfl (by kernel_rfl) (by kernel_rfl) (by kernel_rfl) (fun _ _ _ h => h) (Or.inl ⟨by rfl, ?_⟩) ?_
    rotate_left
    focus ((intro w hSw; clear hSw; go_simp); try with_reducible rfl)
    (try simp only [Act.put, List.getElem_toArray, List.getElem_cons_zero, List.getElem_cons_succ, List.setIfInBounds_toArray, List.set_cons_zero, List.set_cons_succ])
    refine wpAnyJ_take (i := 5) (v := ?_) rfl (by kernel_rfl) (by kernel_rfl) (by kernel_rfl) (by kernel_rfl) (fun _ _ _ h => h) (Or.inl ⟨by rfl, ?_⟩) (by assumption) ?_
    rotate_left
    focus ((intro w hSw; (try dsimp only at hSw); go_simp); try with_reducible rfl)
    (try simp only [Act.put, List.getElem_toArray, List.getElem_cons_zero, List.getElem_cons_succ, List.setIfInBounds_toArray, List.set_cons_zero, List.set_cons_succ])
    refine wpAnyJ_take0 (i := 6) (v := ?_) rfl (by kernel_rfl) (by kernel_rfl) (by kernel_rfl) (fun _ _ _ h => h) (Or.inl ⟨by rfl, ?_⟩) ?_
    rotate_left
    focus ((intro w hSw; clear hSw; go_simp); try with_reducible rfl)
    (try simp only [Act.put, List.getElem_toArray, List.getElem_cons_zero, List.getElem_cons_succ, List.setIfInBounds_toArray, List.set_cons_zero, List.set_cons_succ])
    refine wpAnyJ_take0 (i := 7) (v := ?_) rfl (by kernel_rfl) (by kernel_rfl) (by kernel_rfl) (fun _ _ _ h => h) (Or.inl ⟨by rfl, ?_⟩) ?_
    rotate_left
    focus ((intro w hSw; clear hSw; go_simp); try with_reducible rfl)
    (try simp only [Act.put, List.getElem_toArray, List.getElem_cons_zero, List.getElem_cons_succ, List.setIfInBounds_toArray, List.set_cons_zero, List.set_cons_succ])
    refine wpAnyJ_take0 (i := 10) (v := ?_) rfl (by kernel_rfl) (by kernel_rfl) (by kernel_rfl) (fun _ _ _ h => h) (Or.inl ⟨by rfl, ?_⟩) ?_
    rotate_left
    focus ((intro w hSw; clear hSw; go_simp); try with_reducible rfl)
    (try simp only [Act.put, List.getElem_toArray, List.getElem_cons_zero, List.getElem_cons_succ, List.setIfInBounds_toArray, List.set_cons_zero, List.set_cons_succ])
    refine wpAnyJ_take0 (i := 11) (v := ?_) rfl (by kernel_rfl) (by kernel_rfl) (by kernel_rfl) (fun _ _ _ h => h) (Or.inl ⟨by rfl, ?_⟩) ?_
    rotate_left
    focus ((intro w hSw; clear hSw; go_simp); try with_reducible rfl)
    (try simp only [Act.put, List.getElem_toArray, List.getElem_cons_zero, List.getElem_cons_succ, List.setIfInBounds_toArray, List.set_cons_zero, List.set_cons_succ])
    refine wpAnyJ_take0 (i := 12) (v := ?_) rfl (by kernel_rfl) (by kernel_rfl) (by kernel_rfl) (fun _ _ _ h => h) (Or.inl ⟨by rfl, ?_⟩) ?_
    rotate_left
    focus ((intro w hSw; clear hSw; go_simp); try with_reducible rfl)
    (try simp only [Act.put, List.getElem_toArray, List.getElem_cons_zero, List.getElem_cons_succ, List.setIfInBounds_toArray, List.set_cons_zero, List.set_cons_succ])
    refine wpAnyJ_take (i := 13) (v := ?_) rfl (by kernel_rfl) (by kernel_rfl) (by kernel_rfl) (by kernel_rfl) (fun _ _ _ h => h) (Or.inl ⟨by rfl, ?_⟩) (by assumption) ?_
    rotate_left
    focus ((intro w hSw; (try dsimp only at hSw); go_simp); try with_reducible rfl)
    (try simp only [Act.put, List.getElem_toArray, List.getElem_cons_zero, List.getElem_cons_succ, List.setIfInBounds_toArray, List.set_cons_zero, List.set_cons_succ])
    refine wpAnyJ_take0 (i := 14) (v := ?_) rfl (by kernel_rfl) (by kernel_rfl) (by kernel_rfl) (fun _ _ _ h => h) (Or.inl ⟨by rfl, ?_⟩) ?_
    rotate_left
    focus ((intro w hSw; clear hSw; go_simp); try with_reducible rfl)
    (try simp only [Act.put, List.getElem_toArray, List.getElem_cons_zero, List.getElem_cons_succ, List.setIfInBounds_toArray, List.set_cons_zero, List.set_cons_succ])
    refine wpAnyJ_take0 (i := 15) (v := ?_) rfl (by kernel_rfl) (by kernel_rfl) (by kernel_rfl) (fun _ _ _ h => h) (Or.inl ⟨by rfl, ?_⟩) ?_
    rotate_left
    focus ((intro w hSw; clear hSw; go_simp); try with_reducible rfl)
    (try simp only [Act.put, List.getElem_toArray, List.getElem_cons_zero, List.getElem_cons_succ, List.setIfInBounds_toArray, List.set_cons_zero, List.set_cons_succ])
    refine wpAnyJ_take0 (i := 16) (v := ?_) rfl (by kernel_rfl) (by kernel_rfl) (by kernel_rfl) (fun _ _ _ h => h) (Or.inl ⟨by rfl, ?_⟩) ?_
    rotate_left
    focus ((intro w hSw; clear hSw; go_simp); try with_reducible rfl)
    (try simp only [Act.put, List.getElem_toArray, List.getElem_cons_zero, List.getElem_cons_succ, List.setIfInBounds_toArray, List.set_cons_zero, List.set_cons_succ])
    refine wpAnyJ_ready (rs := [8, 17]) (by kernel_rfl) (by simp) ?_
    refine AllReadyJ.cons rfl (fun KK hKK => ?_) (AllReadyJ.cons rfl (fun KK hKK => ?_) AllReadyJ.nil)
    · go_simp
      replace HST := HST.alloc (.string key') 9
      have hH2 : (fun u : World => u.cell? ⟨p, 0, none⟩ = some (.slice a1 n c1) ∧ u.cell? ⟨p, 2, none⟩ = some (.slice (some ⟨g3, 0, none⟩) m c3)) (u0.alloc (.cells #[.string key'] 9)) := ⟨HST.cell.1, HST.cell.2.2.1⟩
      refine hKK.out _ _ (fun _ _ => hH2) ?_
      clear hKK KK
      generalize u0.heap.size = vb1 at HST ⊢
      generalize u0.alloc (.cells #[.string key'] 9) = u1 at HST hH2 ⊢
      clear hHeld
      have hHeld := hH2
      clear hH2
      clear u0
      revert u1
      intro u0 HST hHeld
      (try simp only [Act.put, List.getElem_toArray, List.getElem_cons_zero, List.getElem_cons_succ, List.setIfInBounds_toArray, List.set_cons_zero, List.set_cons_succ])
      refine wpAnyJ_ready (rs := [9, 17]) (by kernel_rfl) (by simp) ?_
      refine AllReadyJ.cons rfl (fun KK hKK => ?_) (AllReadyJ.cons rfl (fun KK hKK => ?_) AllReadyJ.nil)
      · go_simp
        go_at_call 42
        refine (HST.ins1 (vb := vb1) (x := key') (i := i) (by simp) HIN.out.1 HIN.out.2).mono ?_
        rintro e u1 ⟨g1, c1', rfl, HST2⟩
        clear HST
        have HST := HST2
        clear HST2
        have hH2 : (fun u : World => u.cell? ⟨p, 0, none⟩ = some (.slice a1 n c1) ∧ u.cell? ⟨p, 2, none⟩ = some (.slice (some ⟨g3, 0, none⟩) m c3)) u1 := ⟨HST.cell.1, HST.cell.2.2.1⟩
        refine hKK.out _ _ (fun _ _ => hH2) ?_
        clear hKK KK
        clear hHeld
        have hHeld := hH2
        clear hH2 u0
        revert u1
        intro u0 HST hHeld
        (try simp only [Act.put, List.getElem_toArray, List.getElem_cons_zero, List.getElem_cons_succ, List.setIfInBounds_toArray, List.set_cons_zero, List.set_cons_succ])
        refine wpAnyJ_ready (rs := [17]) (by kernel_rfl) (by simp) ?_
        refine AllReadyJ.cons rfl (fun KK hKK => ?_) AllReadyJ.nil
        go_simp
        replace HST := HST.alloc (.pointer (some ⟨q, 0, none⟩)) 61
        have hH2 : (fun u : World => u.cell? ⟨p, 0, none⟩ = some (.slice a1 n c1) ∧ u.cell? ⟨p, 2, none⟩ = some (.slice (some ⟨g3, 0, none⟩) m c3)) (u0.alloc (.cells #[.pointer (some ⟨q, 0, none⟩)] 61)) := ⟨HST.cell.1, HST.cell.2.2.1⟩
        refine hKK.out _ _ (fun _ _ => hH2) ?_
        clear hKK KK
        generalize u0.heap.size = vb2 at HST ⊢
        generalize u0.alloc (.cells #[.pointer (some ⟨q, 0, none⟩)] 61) = u1 at HST hH2 ⊢
        clear hHeld
        have hHeld := hH2
        clear hH2
        clear u0
        revert u1
        intro u0 HST hHeld
        (try simp only [Act.put, List.getElem_toArray, List.getElem_cons_zero, List.getElem_cons_succ, List.setIfInBounds_toArray, List.set_cons_zero, List.set_cons_succ])
        refine wpAnyJ_ready (rs := [18]) (by kernel_rfl) (by simp) ?_
        refine AllReadyJ.cons rfl (fun KK hKK => ?_) AllReadyJ.nil
        go_simp
        go_at_call 44
        refine (HST.ins3 (vb := vb2) (x := q) (i := i + 1) (by simp [ptrV]) HIC.out.1 HIC.out.2 ((i : Int) + 1) (by omega)).mono ?_
        rintro e u1 ⟨g2, c2', rfl, HST2⟩
        clear HST
        have HST := HST2
        clear HST2
        have hH2 : (fun u : World => u.cell? ⟨p, 0, none⟩ = some (.slice a1 n c1) ∧ u.cell? ⟨p, 2, none⟩ = some (.slice (some ⟨g3, 0, none⟩) m c3)) u1 := ⟨HST.cell.1, HST.cell.2.2.1⟩
        refine hKK.out _ _ (fun _ _ => hH2) ?_
        clear hKK KK
        clear hHeld
        have hHeld := hH2
        clear hH2 u0
        revert u1
        intro u0 HST hHeld
        (try simp only [Act.put, List.getElem_toArray, List.getElem_cons_zero, List.getElem_cons_succ, List.setIfInBounds_toArray, List.set_cons_zero, List.set_cons_succ])
        refine wpAnyJ_take0 (i := 19) (v := ?_) rfl (by kernel_rfl) (by kernel_rfl) (by kernel_rfl) (fun _ _ _ h => h) (Or.inl ⟨by rfl, ?_⟩) ?_
        rotate_left
        focus ((intro w hSw; clear hSw; go_simp); try with_reducible rfl)
        (try simp only [Act.put, List.getElem_toArray, List.getElem_cons_zero, List.getElem_cons_succ, List.setIfInBounds_toArray, List.set_cons_zero, List.set_cons_succ])
        refine wpAnyJ_take0 (i := 20) (v := ?_) rfl (by kernel_rfl) (by kernel_rfl) (by kernel_rfl) (fun _ _ _ h => h) (Or.inl ⟨by rfl, ?_⟩) ?_
        rotate_left
        focus ((intro w hSw; clear hSw; go_simp); try with_reducible rfl)
        (try simp only [Act.put, List.getElem_toArray, List.getElem_cons_zero, List.getElem_cons_succ, List.setIfInBounds_toArray, List.set_cons_zero, List.set_cons_succ])
        refine wpAnyJ_ready (rs := [21]) (by kernel_rfl) (by simp) ?_
        refine AllReadyJ.cons rfl (fun KK hKK => ?_) AllReadyJ.nil
        have hz1 := HST.cell.2.2.2 0
        have hz2 := HST.cell.1
        go_simp
        clear hz1 hz2
        replace HST := HST.put0 (.slice (some ⟨g1, 0, none⟩) (n + 1) c1')
        refine hKK.out _ _ (fun h => absurd h (by decide)) ?_
        clear hKK KK
        generalize u0.setCell ⟨p, 0, none⟩ (.slice (some ⟨g1, 0, none⟩) (n + 1) c1') = u1 at HST ⊢
        (try clear hHeld)
        clear u0
        revert u1
        intro u0 HST
        (try simp only [Act.put, List.getElem_toArray, List.getElem_cons_zero, List.getElem_cons_succ, List.setIfInBounds_toArray, List.set_cons_zero, List.set_cons_succ])
        refine wpAnyJ_take0 (i := 22) (v := ?_) rfl (by kernel_rfl) (by kernel_rfl) (by kernel_rfl) (fun _ _ _ h => h) (Or.inl ⟨by rfl, ?_⟩) ?_
        rotate_left
        focus ((intro w hSw; clear hSw; go_simp); try with_reducible rfl)
        (try simp only [Act.put, List.getElem_toArray, List.getElem_cons_zero, List.getElem_cons_succ, List.setIfInBounds_toArray, List.set_cons_zero, List.set_cons_succ])
        refine wpAnyJ_take0 (i := 23) (v := ?_) rfl (by kernel_rfl) (by kernel_rfl) (by kernel_rfl) (fun _ _ _ h => h) (Or.inl ⟨by rfl, ?_⟩) ?_
        rotate_left
        focus ((intro w hSw; clear hSw; go_simp); try with_reducible rfl)
        (try simp only [Act.put, List.getElem_toArray, List.getElem_cons_zero, List.getElem_cons_succ, List.setIfInBounds_toArray, List.set_cons_zero, List.set_cons_succ])
        refine wpAnyJ_ready (rs := [24]) (by kernel_rfl) (by simp) ?_
        refine AllReadyJ.cons rfl (fun KK hKK => ?_) AllReadyJ.nil
        have hz1 := HST.cell.2.2.2 2
        have hz2 := HST.cell.2.2.1
        go_simp
        clear hz1 hz2
        replace HST := HST.put2 (.slice (some ⟨g2, 0, none⟩) (m + 1) c2')
        refine hKK.out _ _ (fun h => absurd h (by decide)) ?_
        clear hKK KK
        generalize u0.setCell ⟨p, 2, none⟩ (.slice (some ⟨g2, 0, none⟩) (m + 1) c2') = u1 at HST ⊢
        (try clear hHeld)
        clear u0
        revert u1
        intro u0 HST
        (try simp only [Act.put, List.getElem_toArray, List.getElem_cons_zero, List.getElem_cons_succ, List.setIfInBounds_toArray, List.set_cons_zero, List.set_cons_succ])
        refine wpAnyJ_done (by kernel_rfl) ?_ _
        refine NoPanic.normal ?_
        go_wp2_with fail
        exact HFIN.out _ _ _ HST.end HST.fr
      · go_simp
        replace HST := HST.alloc (.pointer (some ⟨q, 0, none⟩)) 61
        have hH2 : (fun u : World => u.cell? ⟨p, 0, none⟩ = some (.slice a1 n c1) ∧ u.cell? ⟨p, 2, none⟩ = some (.slice (some ⟨g3, 0, none⟩) m c3)) (u0.alloc (.cells #[.pointer (some ⟨q, 0, none⟩)] 61)) := ⟨HST.cell.1, HST.cell.2.2.1⟩
        refine hKK.out _ _ (fun _ _ => hH2) ?_
        clear hKK KK
        generalize u0.heap.size = vb2 at HST ⊢
        generalize u0.alloc (.cells #[.pointer (some ⟨q, 0, none⟩)] 61) = u1 at HST hH2 ⊢
        clear hHeld
        have hHeld := hH2
        clear hH2
        clear u0
        revert u1
        intro u0 HST hHeld
        (try simp only [Act.put, List.getElem_toArray, List.getElem_cons_zero, List.getElem_cons_succ, List.setIfInBounds_toArray, List.set_cons_zero, List.set_cons_succ])
        refine wpAnyJ_ready (rs := [9]) (by kernel_rfl) (by simp) ?_
        refine AllReadyJ.cons rfl (fun KK hKK => ?_) AllReadyJ.nil
        go_simp
        go_at_call 42
        refine (HST.ins1 (vb := vb1) (x := key') (i := i) (by simp) HIN.out.1 HIN.out.2).mono ?_
        rintro e u1 ⟨g1, c1', rfl, HST2⟩
        clear HST
        have HST := HST2
        clear HST2
        have hH2 : (fun u : World => u.cell? ⟨p, 0, none⟩ = some (.slice a1 n c1) ∧ u.cell? ⟨p, 2, none⟩ = some (.slice (some ⟨g3, 0, none⟩) m c3)) u1 := ⟨HST.cell.1, HST.cell.2.2.1⟩
        refine hKK.out _ _ (fun _ _ => hH2) ?_
        clear hKK KK
        clear hHeld
        have hHeld := hH2
        clear hH2 u0
        revert u1
        intro u0 HST hHeld
        (try simp only [Act.put, List.getElem_toArray, List.getElem_cons_zero, List.getElem_cons_succ, List.setIfInBounds_toArray, List.set_cons_zero, List.set_cons_succ])
        refine wpAnyJ_ready (rs := [18]) (by kernel_rfl) (by simp) ?_
        refine AllReadyJ.cons rfl (fun KK hKK => ?_) AllReadyJ.nil
        go_simp
        go_at_call 44
        refine (HST.ins3 (vb := vb2) (x := q) (i := i + 1) (by simp [ptrV]) HIC.out.1 HIC.out.2 ((i : Int) + 1) (by omega)).mono ?_
        rintro e u1 ⟨g2, c2', rfl, HST2⟩
        clear HST
        have HST := HST2
        clear HST2
        have hH2 : (fun u : World => u.cell? ⟨p, 0, none⟩ = some (.slice a1 n c1) ∧ u.cell? ⟨p, 2, none⟩ = some (.slice (some ⟨g3, 0, none⟩) m c3)) u1 := ⟨HST.cell.1, HST.cell.2.2.1⟩
        refine hKK.out _ _ (fun _ _ => hH2) ?_
        clear hKK KK
        clear hHeld
        have hHeld := hH2
        clear hH2 u0
        revert u1
        intro u0 HST hHeld
        (try simp only [Act.put, List.getElem_toArray, List.getElem_cons_zero, List.getElem_cons_succ, List.setIfInBounds_toArray, List.set_cons_zero, List.set_cons_succ])
        refine wpAnyJ_take0 (i := 19) (v := ?_) rfl (by kernel_rfl) (by kernel_rfl) (by kernel_rfl) (fun _ _ _ h => h) (Or.inl ⟨by rfl, ?_⟩) ?_
        rotate_left
        focus ((intro w hSw; clear hSw; go_simp); try with_reducible rfl)
        (try simp only [Act.put, List.getElem_toArray, List.getElem_cons_zero, List.getElem_cons_succ, List.setIfInBounds_toArray, List.set_cons_zero, List.set_cons_succ])
        refine wpAnyJ_take0 (i := 20) (v := ?_) rfl (by kernel_rfl) (by kernel_rfl) (by kernel_rfl) (fun _ _ _ h => h) (Or.inl ⟨by rfl, ?_⟩) ?_
        rotate_left
        focus ((intro w hSw; clear hSw; go_simp); try with_reducible rfl)
        (try simp only [Act.put, List.getElem_toArray, List.getElem_cons_zero, List.getElem_cons_succ, List.setIfInBounds_toArray, List.set_cons_zero, List.set_cons_succ])
        refine wpAnyJ_ready (rs := [21]) (by kernel_rfl) (by simp) ?_
        refine AllReadyJ.cons rfl (fun KK hKK => ?_) AllReadyJ.nil
        have hz1 := HST.cell.2.2.2 0
        have hz2 := HST.cell.1
        go_simp
        clear hz1 hz2
        replace HST := HST.put0 (.slice (some ⟨g1, 0, none⟩) (n + 1) c1')
        refine hKK.out _ _ (fun h => absurd h (by decide)) ?_
        clear hKK KK
        generalize u0.setCell ⟨p, 0, none⟩ (.slice (some ⟨g1, 0, none⟩) (n + 1) c1') = u1 at HST ⊢
        (try clear hHeld)
        clear u0
        revert u1
        intro u0 HST
        (try simp only [Act.put, List.getElem_toArray, List.getElem_cons_zero, List.getElem_cons_succ, List.setIfInBounds_toArray, List.set_cons_zero, List.set_cons_succ])
        refine wpAnyJ_take0 (i := 22) (v := ?_) rfl (by kernel_rfl) (by kernel_rfl) (by kernel_rfl) (fun _ _ _ h => h) (Or.inl ⟨by rfl, ?_⟩) ?_
        rotate_left
        focus ((intro w hSw; clear hSw; go_simp); try with_reducible rfl)
        (try simp only [Act.put, List.getElem_toArray, List.getElem_cons_zero, List.getElem_cons_succ, List.setIfInBounds_toArray, List.set_cons_zero, List.set_cons_succ])
        refine wpAnyJ_take0 (i := 23) (v := ?_) rfl (by kernel_rfl) (by kernel_rfl) (by kernel_rfl) (fun _ _ _ h => h) (Or.inl ⟨by rfl, ?_⟩) ?_
        rotate_left
        focus ((intro w hSw; clear hSw; go_simp); try with_reducible rfl)
        (try simp only [Act.put, List.getElem_toArray, List.getElem_cons_zero, List.getElem_cons_succ, List.setIfInBounds_toArray, List.set_cons_zero, List.set_cons_succ])
        refine wpAnyJ_ready (rs := [24]) (by kernel_rfl) (by simp) ?_
        refine AllReadyJ.cons rfl (fun KK hKK => ?_) AllReadyJ.nil
        have hz1 := HST.cell.2.2.2 2
        have hz2 := HST.cell.2.2.1
        go_simp
        clear hz1 hz2
        replace HST := HST.put2 (.slice (some ⟨g2, 0, none⟩) (m + 1) c2')
        refine hKK.out _ _ (fun h => absurd h (by decide)) ?_
        clear hKK KK
        generalize u0.setCell ⟨p, 2, none⟩ (.slice (some ⟨g2, 0, none⟩) (m + 1) c2') = u1 at HST ⊢
        (try clear hHeld)
        clear u0
        revert u1
        intro u0 HST
        (try simp only [Act.put, List.getElem_toArray, List.getElem_cons_zero, List.getElem_cons_succ, List.setIfInBounds_toArray, List.set_cons_zero, List.set_cons_succ])
        refine wpAnyJ_done (by kernel_rfl) ?_ _
        refine NoPanic.normal ?_
        go_wp2_with fail
        exact HFIN.out _ _ _ HST.end HST.fr
    · go_simp
      replace HST := HST.alloc (.pointer (some ⟨q, 0, none⟩)) 61
      have hH2 : (fun u : World => u.cell? ⟨p, 0, none⟩ = some (.slice a1 n c1) ∧ u.cell? ⟨p, 2, none⟩ = some (.slice (some ⟨g3, 0, none⟩) m c3)) (u0.alloc (.cells #[.pointer (some ⟨q, 0, none⟩)] 61)) := ⟨HST.cell.1, HST.cell.2.2.1⟩
      refine hKK.out _ _ (fun _ _ => hH2) ?_
      clear hKK KK
      generalize u0.heap.size = vb2 at HST ⊢
      generalize u0.alloc (.cells #[.pointer (some ⟨q, 0, none⟩)] 61) = u1 at HST hH2 ⊢
      clear hHeld
      have hHeld := hH2
      clear hH2
      clear u0
      revert u1
      intro u0 HST hHeld
      (try simp only [Act.put, List.getElem_toArray, List.getElem_cons_zero, List.getElem_cons_succ, List.setIfInBounds_toArray, List.set_cons_zero, List.set_cons_succ])
      refine wpAnyJ_ready (rs := [8]) (by kernel_rfl) (by simp) ?_
      refine AllReadyJ.cons rfl (fun KK hKK => ?_) AllReadyJ.nil
      go_simp
      replace HST := HST.alloc (.string key') 9
      have hH2 : (fun u : World => u.cell? ⟨p, 0, none⟩ = some (.slice a1 n c1) ∧ u.cell? ⟨p, 2, none⟩ = some (.slice (some ⟨g3, 0, none⟩) m c3)) (u0.alloc (.cells #[.string key'] 9)) := ⟨HST.cell.1, HST.cell.2.2.1⟩
      refine hKK.out _ _ (fun _ _ => hH2) ?_
      clear hKK KK
      generalize u0.heap.size = vb1 at HST ⊢
      generalize u0.alloc (.cells #[.string key'] 9) = u1 at HST hH2 ⊢
      clear hHeld
      have hHeld := hH2
      clear hH2
      clear u0
      revert u1
      intro u0 HST hHeld
      (try simp only [Act.put, List.getElem_toArray, List.getElem_cons_zero, List.getElem_cons_succ, List.setIfInBounds_toArray, List.set_cons_zero, List.set_cons_succ])
      refine wpAnyJ_ready (rs := [9]) (by kernel_rfl) (by simp) ?_
      refine AllReadyJ.cons rfl (fun KK hKK => ?_) AllReadyJ.nil
      go_simp
      go_at_call 42
      refine (HST.ins1 (vb := vb1) (x := key') (i := i) (by simp) HIN.out.1 HIN.out.2).mono ?_
      rintro e u1 ⟨g1, c1', rfl, HST2⟩
      clear HST
      have HST := HST2
      clear HST2
      have hH2 : (fun u : World => u.cell? ⟨p, 0, none⟩ = some (.slice a1 n c1) ∧ u.cell? ⟨p, 2, none⟩ = some (.slice (some ⟨g3, 0, none⟩) m c3)) u1 := ⟨HST.cell.1, HST.cell.2.2.1⟩
      refine hKK.out _ _ (fun _ _ => hH2) ?_
      clear hKK KK
      clear hHeld
      have hHeld := hH2
      clear hH2 u0
      revert u1
      intro u0 HST hHeld
      (try simp only [Act.put, List.getElem_toArray, List.getElem_cons_zero, List.getElem_cons_succ, List.setIfInBounds_toArray, List.set_cons_zero, List.set_cons_succ])
      refine wpAnyJ_ready (rs := [18]) (by kernel_rfl) (by simp) ?_
      refine AllReadyJ.cons rfl (fun KK hKK => ?_) AllReadyJ.nil
      go_simp
      go_at_call 44
      refine (HST.ins3 (vb := vb2) (x := q) (i := i + 1) (by simp [ptrV]) HIC.out.1 HIC.out.2 ((i : Int) + 1) (by omega)).mono ?_
      rintro e u1 ⟨g2, c2', rfl, HST2⟩
      clear HST
      have HST := HST2
      clear HST2
      have hH2 : (fun u : World => u.cell? ⟨p, 0, none⟩ = some (.slice a1 n c1) ∧ u.cell? ⟨p, 2, none⟩ = some (.slice (some ⟨g3, 0, none⟩) m c3)) u1 := ⟨HST.cell.1, HST.cell.2.2.1⟩
      refine hKK.out _ _ (fun _ _ => hH2) ?_
      clear hKK KK
      clear hHeld
      have hHeld := hH2
      clear hH2 u0
      revert u1
      intro u0 HST hHeld
      (try simp only [Act.put, List.getElem_toArray, List.getElem_cons_zero, List.getElem_cons_succ, List.setIfInBounds_toArray, List.set_cons_zero, List.set_cons_succ])
      refine wpAnyJ_take0 (i := 19) (v := ?_) rfl (by kernel_rfl) (by kernel_rfl) (by kernel_rfl) (fun _ _ _ h => h) (Or.inl ⟨by rfl, ?_⟩) ?_
      rotate_left
      focus ((intro w hSw; clear hSw; go_simp); try with_reducible rfl)
      (try simp only [Act.put, List.getElem_toArray, List.getElem_cons_zero, List.getElem_cons_succ, List.setIfInBounds_toArray, List.set_cons_zero, List.set_cons_succ])
      refine wpAnyJ_take0 (i := 20) (v := ?_) rfl (by kernel_rfl) (by kernel_rfl) (by kernel_rfl) (fun _ _ _ h => h) (Or.inl ⟨by rfl, ?_⟩) ?_
      rotate_left
      focus ((intro w hSw; clear hSw; go_simp); try with_reducible rfl)
      (try simp only [Act.put, List.getElem_toArray, List.getElem_cons_zero, List.getElem_cons_succ, List.setIfInBounds_toArray, List.set_cons_zero, List.set_cons_succ])
      refine wpAnyJ_ready (rs := [21]) (by kernel_rfl) (by simp) ?_
      refine AllReadyJ.cons rfl (fun KK hKK => ?_) AllReadyJ.nil
      have hz1 := HST.cell.2.2.2 0
      have hz2 := HST.cell.1
      go_simp
      clear hz1 hz2
      replace HST := HST.put0 (.slice (some ⟨g1, 0, none⟩) (n + 1) c1')
      refine hKK.out _ _ (fun h => absurd h (by decide)) ?_
      clear hKK KK
      generalize u0.setCell ⟨p, 0, none⟩ (.slice (some ⟨g1, 0, none⟩) (n + 1) c1') = u1 at HST ⊢
      (try clear hHeld)
      clear u0
      revert u1
      intro u0 HST
      (try simp only [Act.put, List.getElem_toArray, List.getElem_cons_zero, List.getElem_cons_succ, List.setIfInBounds_toArray, List.set_cons_zero, List.set_cons_succ])
      refine wpAnyJ_take0 (i := 22) (v := ?_) rfl (by kernel_rfl) (by kernel_rfl) (by kernel_rfl) (fun _ _ _ h => h) (Or.inl ⟨by rfl, ?_⟩) ?_
      rotate_left
      focus ((intro w hSw; clear hSw; go_simp); try with_reducible rfl)
      (try simp only [Act.put, List.getElem_toArray, List.getElem_cons_zero, List.getElem_cons_succ, List.setIfInBounds_toArray, List.set_cons_zero, List.set_cons_succ])
      refine wpAnyJ_take0 (i := 23) (v := ?_) rfl (by kernel_rfl) (by kernel_rfl) (by kernel_rfl) (fun _ _ _ h => h) (Or.inl ⟨by rfl, ?_⟩) ?_
      rotate_left
      focus ((intro w hSw; clear hSw; go_simp); try with_reducible rfl)
      (try simp only [Act.put, List.getElem_toArray, List.getElem_cons_zero, List.getElem_cons_succ, List.setIfInBounds_toArray, List.set_cons_zero, List.set_cons_succ])
      refine wpAnyJ_ready (rs := [24]) (by kernel_rfl) (by simp) ?_
      refine AllReadyJ.cons rfl (fun KK hKK => ?_) AllReadyJ.nil
      have hz1 := HST.cell.2.2.2 2
      have hz2 := HST.cell.2.2.1
      go_simp
      clear hz1 hz2
      replace HST := HST.put2 (.slice (some ⟨g2, 0, none⟩) (m + 1) c2')
      refine hKK.out _ _ (fun h => absurd h (by decide)) ?_
      clear hKK KK
      generalize u0.setCell ⟨p, 2, none⟩ (.slice (some ⟨g2, 0, none⟩) (m + 1) c2') = u1 at HST ⊢
      (try clear hHeld)
      clear u0
      revert u1
      intro u0 HST
      (try simp only [Act.put, List.getElem_toArray, List.getElem_cons_zero, List.getElem_cons_succ, List.setIfInBounds_toArray, List.set_cons_zero, List.set_cons_succ])
      refine wpAnyJ_done (by kernel_rfl) ?_ _
      refine NoPanic.normal ?_
      go_wp2_with fail
      exact HFIN.out _ _ _ HST.end HST.fr
set_option maxRecDepth 100000 in
set_option maxHeartbeats 16000000 in
theorem del_fork {w : World} {p tb : Nat} {v1 v2 v3 : Value} {K : List ByteArray} {C : List Nat} {key : ByteArray} {R : Bool → World → Prop} (h : NodeAt w p v1 v2 v3 K [] C) (hs : SortedS K) (hl : K.length ≤ 1000) (hC : C.length = K.length + 1)
    (hdel : ∀ i, ChildP K key i → ∃ pk, C[i]? = some pk ∧ Calls Try.prog 41 #[.pointer (some ⟨tb, 0, none⟩), .pointer (some ⟨pk, 0, none⟩), .string key] w fun e w1 => ∃ ok, e = .returned (.bool ok) ∧
      Calls Try.prog 54 #[.pointer (some ⟨tb, 0, none⟩), .pointer (some ⟨p, 0, none⟩), .int .i64 i] w1 fun e2 w2 => e2 = .returned (.tuple #[]) ∧ R ok w2) :
    Calls Try.prog 41 #[.pointer (some ⟨tb, 0, none⟩), .pointer (some ⟨p, 0, none⟩), .string key] w fun e w' => ∃ ok, e = .returned (.bool ok) ∧ R ok w' := by
  have HL := leaf_any h
  rw [show C.isEmpty = false from by cases C with | nil => simp at hC | cons _ _ => rfl] at HL
  have HL := Lib.hid HL
  have HC := Lib.hid (child_any h key hs (by omega))
  have HDEL := Lib.hid hdel
  obtain ⟨a1, c1, a2, c2, a3, c3, rfl, rfl, rfl, l1, _, l3, m1, _, m3⟩ := h.forms
  obtain ⟨pk0, hk0⟩ : ∃ pk, C[0]? = some pk := get_some (by omega)
  obtain ⟨g3, rfl, _, _⟩ := h.kid hk0
  obtain ⟨Q, hQ⟩ : ∃ Q, (fun (e : Ending) (w' : World) => ∃ ok, e = .returned (.bool ok) ∧ R ok w') = Q := ⟨_, rfl⟩
  have HQ : Hid (∀ ok w', R ok w' → Q (.returned (.bool ok)) w') := Lib.hid (by intro ok w' hr; rw [← hQ]; exact ⟨ok, rfl, hr⟩)
  rw [hQ]
  have HH := Lib.hid h
  have HCL := Lib.hid hC
  have d2 := h.cells.2.2.1
  generalize eN : K.length = n at *
  generalize eM : C.length = m at *
  have HN := Lib.hid eN
  clear h hs hdel hQ hk0 eN eM hC
  go_enter Try.func41, Try.ntmps41
  go_wp2_with fail
  refine HL.out.mono ?_; rintro e w' ⟨rfl, rfl⟩
  go_wp2_with fail
  refine HC.out.mono ?_; rintro e w' ⟨i, rfl, hcp, rfl⟩
  obtain ⟨pk, hk, hcall⟩ := HDEL.out i hcp
  have hil : i < m := by have := hcp.1; have := HCL.out; have := HN.out; omega
  have hil' : (i : Int) < m := by omega
  have hi0 : (0 : Int) ≤ i := by omega
  have HCALL := Lib.hid hcall
  obtain ⟨_, e9, ki, _⟩ := HH.out.kid hk
  injection e9 with e9
  injection e9 with e9 _
  subst e9
  clear hcp hk hcall
  go_wp2_with fail
  refine HCALL.out.mono ?_; rintro e w1 ⟨ok, rfl, hmend⟩
  have HMD := Lib.hid hmend
  clear hmend
  go_wp2_with fail
  refine HMD.out.mono ?_; rintro e w2 ⟨rfl, hR⟩
  have HR := Lib.hid (HQ.out _ _ hR)
  clear hR
  go_wp2_with fail
  exact HR.out
end Go.Proofs.Ytjoopjmcnkiieaa

/- split of a tree's node. Conditions: the tree is there, it has one key too many at most. -/
namespace Go.Proofs.Ytjoopjmcnkiieaa
open Go.RowKit Go.Lib
set_option linter.unusedSimpArgs false
set_option linter.unusedVariables false

/-- Both halves. -/
def Halves (o d : Nat) (lo hi : Option ByteArray) (c : Tr) (w : World) (e : Ending) (w' : World) : Prop :=
  ∃ q key c1 c2, e = .returned (.tuple #[.pointer (some ⟨q, 0, none⟩), .string key]) ∧ mem d w' c1 ∧ mem d w' c2 ∧ c1.p = c.p ∧ c2.p = q ∧ Fr (fp d c) (fun k => fp d c1 k + fp d c2 k) w w' ∧
    inv o d (lst o d) o lo (some key) c1 ∧ inv o d (lst o d) o (some key) hi c2 ∧ flat d c1 ++ flat d c2 = flat d c
theorem split_any {o tb : Nat} (ho3 : 3 ≤ o) (ho2 : o ≤ 64) {d a : Nat} {lo hi : Option ByteArray} {w : World} {c : Tr} (hm : mem d w c) (h1 : ∀ k, fp d c k ≤ 1) (hv : inv o d a (o + 1) lo hi c) (ho : w.cell? ⟨tb, 0, none⟩ = some (.int .i64 o)) :
    Calls Try.prog 31 #[.pointer (some ⟨tb, 0, none⟩), .pointer (some ⟨c.p, 0, none⟩)] w fun e w' =>
      (c.ks.length ≤ o ∧ e = .returned (.tuple #[.pointer none, .string ⟨#[]⟩]) ∧ Below w.heap.size w w') ∨ (c.ks.length = o + 1 ∧ Halves o d lo hi c w e w') := by
  by_cases hs : c.ks.length ≤ o
  · obtain ⟨V, C, hn⟩ := mem_node hm
    refine (split_small hn ho hs ho2).mono ?_
    rintro e w' ⟨he, hb⟩
    exact .inl ⟨hs, he, hb⟩
  · have hlen := inv_len hv
    have hK : c.ks.length = o + 1 := by omega
    have hso := inv_sorted hv
    have hmm : (o + 1) / 2 < c.ks.length := by omega
    cases d with
    | zero =>
      obtain ⟨hvs, _, hin, _, _, _⟩ := hv
      refine (split_leaf hm.1 h1 ho hK (by omega) ho3 ho2).mono ?_
      rintro e w' ⟨q, key, v1', v2', r1, r2, hk, rfl, hn1, hn2, hf⟩
      have hlo : ∀ (i : Nat) y, i < (o + 1) / 2 → c.ks[i]? = some y → ltS y key = true := fun i y hi hy => hso i _ y key hi hy hk
      obtain ⟨hd1, hd2⟩ := pos_at hso hk
      have hkin : inR lo hi key := hin key (List.mem_of_getElem? hk)
      refine .inr ⟨hK, q, key, .mk c.p v1' v2' c.v3 (c.ks.take ((o + 1) / 2)) (c.vs.take ((o + 1) / 2)) [], .mk q r1 r2 (.slice none 0 0) (c.ks.drop ((o + 1) / 2)) (c.vs.drop ((o + 1) / 2)) [], rfl, ⟨hn1, rfl⟩, ⟨hn2, rfl⟩, rfl, rfl, hf, ?_, ?_, (zip_split hvs _).symm⟩
      · refine ⟨by simp; omega, sorted_sub hso (List.take_sublist _ _), fun k hk2 => ⟨(hin k (List.mem_of_mem_take hk2)).1, fun h e => ?_⟩, fun l h e1 e2 => ?_, by simp [lst]; omega, by simp; omega⟩
        · injection e with e; subst e; exact pos_lo hlo k hk2
        · injection e2 with e2; subst e2; subst e1
          obtain ⟨k0, hk0⟩ : ∃ k0, c.ks[0]? = some k0 := get_some (by omega)
          exact ltS_le_lt ((hin k0 (List.mem_of_getElem? hk0)).1 l rfl) (hlo 0 k0 (by omega) hk0)
      · refine ⟨by simp; omega, sorted_sub hso (List.drop_sublist _ _), fun k hk2 => ⟨fun l e => ?_, (hin k (List.mem_of_mem_drop hk2)).2⟩, fun l h e1 e2 => ?_, by simp [lst]; omega, by simp; omega⟩
        · injection e with e; subst e
          have hk2 : k ∈ c.ks.drop ((o + 1) / 2) := hk2
          rw [hd1] at hk2
          rcases List.mem_cons.1 hk2 with rfl | hk2
          · exact ltS_irrefl _
          · exact ltS_asymm (hd2 k hk2)
        · injection e1 with e1; subst e1; exact hkin.2 h e2
    | succ d =>
      obtain ⟨hn, hvs, hkids⟩ := hm
      obtain ⟨L, c0, R, lo', hi', hL, hF⟩ := hv.1.focus ((o + 1) / 2) (by omega)
      have hlc := hv.1.len
      have hks := hF.ks
      have hcs := hF.cs
      have hr := hF.r
      have hc0 := hF.c
      cases R with
      | nil => rw [hks] at hmm; simp at hmm; omega
      | cons x R =>
        obtain ⟨rfl, h', hx, hR⟩ := hr
        have how : ∀ k, ow c.p c.v1 c.v2 c.v3 k + fpL (fp d) c.cs k ≤ 1 := h1
        refine (split_fork hn (fun k => by have := how k; omega) ho hK (by rw [List.length_map]; omega) ho3 ho2).mono ?_
        rintro e w' ⟨q, key, v1', v3', r1, r3, hk, rfl, hn1, hn2, hf⟩
        have hLm : (L.map (·.2)).length = (o + 1) / 2 := by rw [List.length_map, hL]
        have hLm1 : (L.map (·.1)).length = (o + 1) / 2 := by rw [List.length_map, hL]
        have hkey : key = x.1 := by
          rw [hks, List.getElem?_append_right (by omega), hLm, Nat.sub_self] at hk
          simpa using hk.symm
        subst hkey
        have ht1 : c.ks.take ((o + 1) / 2) = L.map (·.2) := by rw [hks, ← hLm, List.take_left']; rfl
        have ht2 : c.ks.drop ((o + 1) / 2 + 1) = R.map (·.1) := by rw [hks, List.drop_append, List.drop_eq_nil_of_le (by omega), hLm, show (o + 1) / 2 + 1 - (o + 1) / 2 = 1 from by omega]; rfl
        have ht3 : (c.cs.map Tr.p).take ((o + 1) / 2 + 1) = (L.map (·.1) ++ [c0]).map Tr.p := by
          rw [← List.map_take, hcs]; congr 1
          rw [List.take_append, List.take_of_length_le (by omega), hLm1, show (o + 1) / 2 + 1 - (o + 1) / 2 = 1 from by omega]; rfl
        have ht4 : (c.cs.map Tr.p).drop ((o + 1) / 2 + 1) = (x.2 :: R.map (·.2)).map Tr.p := by
          rw [← List.map_drop, hcs]; congr 1
          rw [List.drop_append, List.drop_eq_nil_of_le (by omega), hLm1, show (o + 1) / 2 + 1 - (o + 1) / 2 = 1 from by omega]; rfl
        rw [ht1, ht3] at hn1
        rw [ht2, ht4] at hn2
        have hkids' : ∀ y ∈ c.cs, mem d w' y := fun y hy => mem_frame (hkids y hy) hf (fun k => by have := how k; have := fpL_mem (f := fp d) hy k; omega)
        have hsz1 : (L.map (·.2)).length = (o + 1) / 2 := hLm
        have hsz2 : (R.map (·.1)).length = o - (o + 1) / 2 := by rw [← ht2, List.length_drop]; omega
        refine .inr ⟨hK, q, x.1, .mk c.p v1' c.v2 v3' (L.map fun y : Tr × ByteArray => y.2) [] ((L.map fun y : Tr × ByteArray => y.1) ++ [c0]), .mk q r1 (.slice none 0 0) r3 (R.map fun y : ByteArray × Tr => y.1) [] (x.2 :: R.map fun y : ByteArray × Tr => y.2), rfl, ⟨hn1, rfl, fun y hy => hkids' y ?_⟩, ⟨hn2, rfl, fun y hy => hkids' y ?_⟩, rfl, rfl, ?_, ⟨?_, ?_, ?_⟩, ⟨⟨x.2, R, h', rfl, rfl, hx, hR⟩, ?_, ?_⟩, ?_⟩
        · rw [hcs]
          rcases List.mem_append.1 hy with hy | hy
          · exact List.mem_append_left _ hy
          · rw [List.mem_singleton.1 hy]; exact List.mem_append_right _ List.mem_cons_self
        · rw [hcs]; exact List.mem_append_right _ (List.mem_cons_of_mem _ hy)
        · refine (hf.frame (fpL (fp d) c.cs) how (fun k hk => ?_)).congr (fun k => rfl) (fun k => ?_)
          · have := mem_hi (d := d + 1) (w := w) (t := c) ⟨hn, hvs, hkids⟩ k hk
            simp only [fp] at this
            omega
          · simp only [fp, Tr.ow, Tr.mk_p, Tr.mk_v1, Tr.mk_v2, Tr.mk_v3, Tr.mk_cs]
            rw [show fpL (fp d) c.cs k = fpL (fp d) (L.map (·.1) ++ c0 :: x.2 :: R.map (·.2)) k from by rw [hcs]; rfl, fpL_append, fpL_append]
            simp only [fpL]
            omega
        · exact Foc.back (L := L) (c := c0) (R := []) ⟨by simp, rfl, hF.l, hc0, rfl⟩
        · simp only [Tr.mk_ks, lst, hsz1]; omega
        · simp only [Tr.mk_ks, hsz1]; omega
        · simp only [Tr.mk_ks, lst, hsz2]; omega
        · simp only [Tr.mk_ks, hsz2]; omega
        · show (L.map (·.1) ++ [c0]).flatMap (flat d) ++ (x.2 :: R.map (·.2)).flatMap (flat d) = c.cs.flatMap (flat d)
          rw [hcs, ← List.flatMap_append]
          simp
end Go.Proofs.Ytjoopjmcnkiieaa

/- put at a leaf. Conditions: the leaf is there, its keys rise. -/
namespace Go.Proofs.Ytjoopjmcnkiieaa
open Go.RowKit Go.Lib
set_option linter.unusedSimpArgs false
set_option linter.unusedVariables false

/-- What put makes of a leaf. -/
def PutLeaf (p : Nat) (v1 v2 v3 : Value) (K : List ByteArray) (V : List Int) (key : ByteArray) (x : Int) (w : World) (e : Ending) (w' : World) : Prop :=
  ∃ (r : Nat) (v1' v2' : Value), r ≤ K.length ∧ (∀ (i : Nat) y, i < r → K[i]? = some y → ltS y key = true) ∧ (∀ (i : Nat) y, r ≤ i → K[i]? = some y → ltS y key = false) ∧ e = .returned (.bool (decide (K[r]? = some key))) ∧
    Fr (ow p v1 v2 v3) (ow p v1' v2' v3) w w' ∧
    if K[r]? = some key then NodeAt w' p v1' v2' v3 K (V.set r x) [] else NodeAt w' p v1' v2' v3 (insAt K r key) (insAt V r x) []
set_option maxRecDepth 100000 in
set_option maxHeartbeats 16000000 in
theorem put_leaf {w : World} {p tb : Nat} {v1 v2 v3 : Value} {K : List ByteArray} {V : List Int} (h : NodeAt w p v1 v2 v3 K V []) (h1 : ∀ k, ow p v1 v2 v3 k ≤ 1) (hs : SortedS K) (hl : K.length ≤ 1000) (hKV : V.length = K.length) (key : ByteArray) (x : Int) :
    Calls Try.prog 30 #[.pointer (some ⟨tb, 0, none⟩), .pointer (some ⟨p, 0, none⟩), .string key, .int .i64 x] w (PutLeaf p v1 v2 v3 K V key x w) := by
  have HL := Lib.hid (leaf_any h)
  obtain ⟨a1, c1, e1, hrow⟩ := h.str
  obtain ⟨a2, c2, e2, _⟩ := h.r2.form
  rw [List.length_map] at e2
  subst e1 e2
  have HB := Lib.hid (bsearch_any K key a1 c1 w.heap.size w hrow (by omega) hs)
  have d0 := h.blk.cell (i := 0) rfl
  have d1 := h.blk.cell (i := 1) rfl
  have HST0 := St.start h h1
  have HH := Lib.hid h
  have HO := Lib.hid h1
  have HKV := Lib.hid hKV
  obtain ⟨n, hn⟩ : ∃ n, K.length = n := ⟨_, rfl⟩
  have HN := Lib.hid hn
  obtain ⟨Q, hQ⟩ : ∃ Q, PutLeaf p (.slice a1 K.length c1) (.slice a2 V.length c2) v3 K V key x w = Q := ⟨_, rfl⟩
  have HQ := Lib.hid hQ
  rw [hQ]
  rw [hKV] at d1 HST0
  rw [hn] at d0 d1 HB HST0 hl
  clear h h1 hs hrow hKV hn hQ
  go_enter Try.func30, Try.ntmps30
  go_wp2_with fail
  refine HL.out.mono ?_; rintro e w' ⟨rfl, rfl⟩
  go_wp2_with fail
  refine HB.out.mono ?_; rintro e w' ⟨rfl, r, rfl, hr, hlo, hhi⟩
  have HLO := Lib.hid hlo
  have HHI := Lib.hid hhi
  have hrn : r ≤ n := by have := HN.out; omega
  have hrn2 : (r : Int) ≤ n := by omega
  have hr0 : (0 : Int) ≤ r := by omega
  have HR := Lib.hid hr
  clear hlo hhi hr
  by_cases hf : K[r]? = some key
  · have hlt : r < n := by have := (List.getElem?_eq_some_iff.1 hf).1; have := HN.out; omega
    have hlt' : (r : Int) < n := by omega
    obtain ⟨y, hy⟩ : ∃ y, V[r]? = some y := get_some (by have := HKV.out; have := HN.out; omega)
    obtain ⟨g, rfl, hg, hcell, hfr⟩ := HH.out.r2.cell (i := r) (x := numV y) (by rw [List.getElem?_map, hy]; rfl)
    have HF := Lib.hid hf
    rw [decide_eq_true hf]
    clear hf hy
    have hcell' : w.cell? ⟨g, r, none⟩ = some (.int .i64 y) := hcell
    clear hcell
    go_wp2_with fail
    rw [← HQ.out]
    have hA := HH.out.r2.set r (numV x)
    have hgo : 0 < ow p (.slice a1 K.length c1) (.slice (some ⟨g, 0, none⟩) V.length c2) v3 g := by unfold ow; rw [rb_some (v := .slice (some ⟨g, 0, none⟩) V.length c2) rfl]; omega
    have h9 := HO.out g
    have hgp : p ≠ g := fun e => by unfold ow at h9; rw [rb_some (v := .slice (some ⟨g, 0, none⟩) V.length c2) rfl, if_pos e.symm] at h9; omega
    have hg1 : ∀ k, Value.ownBlock (.slice a1 K.length c1) = some k → k ≠ g := fun k e e2 => by subst e2; unfold ow at h9; rw [rb_some (v := .slice (some ⟨k, 0, none⟩) V.length c2) rfl, rb_some e] at h9; omega
    have hg3 : ∀ k, v3.ownBlock = some k → k ≠ g := fun k e e2 => by subst e2; unfold ow at h9; rw [rb_some (v := .slice (some ⟨k, 0, none⟩) V.length c2) rfl, rb_some e] at h9; omega
    have hsc : ∀ k, k ≠ g → (w.setCell ⟨g, r, none⟩ (numV x)).heap[k]? = w.heap[k]? := fun k hk => Below.heap_setCell _ _ _ _ hk
    refine ⟨r, _, _, HR.out, HLO.out, HHI.out, by rw [HF.out]; simp, (Fr.refl HO.out HH.out.hi).setCell hgo _, ?_⟩
    rw [if_pos HF.out]
    refine ⟨HH.out.blk.of_heap (hsc p hgp), HH.out.r1.of_heap fun k e => hsc k (hg1 k e), ?_, HH.out.r3.of_heap fun k e => hsc k (hg3 k e)⟩
    rw [List.map_set]
    exact hA
  · have HF := Lib.hid hf
    rw [decide_eq_false hf]
    clear hf
    have HFIN : Hid (∀ (g1 c1' g2 c2' : Nat) (w' : World) (E : List (Nat × Value × TypeId)), St w (ow p (.slice a1 K.length c1) (.slice a2 V.length c2) v3) w' p (.slice (some ⟨g1, 0, none⟩) (n + 1) c1') (.slice (some ⟨g2, 0, none⟩) (n + 1) c2') v3 (.slice (some ⟨g1, 0, none⟩) (n + 1) c1') (.slice (some ⟨g2, 0, none⟩) (n + 1) c2') v3 (insAt K r key) (insAt V r x) [] E → Q (.returned (.bool false)) w') := Lib.hid (by
      intro g1 c1' g2 c2' w' E hst
      rw [← HQ.out]
      refine ⟨r, _, _, HR.out, HLO.out, HHI.out, by rw [decide_eq_false HF.out], hst.fr, ?_⟩
      rw [if_neg HF.out]
      exact hst.end)
    have HRK : Hid (r ≤ K.length ∧ K.length ≤ 1000000 ∧ r ≤ V.length ∧ V.length ≤ 1000000) := Lib.hid (by have := HR.out; have := HKV.out; have := HN.out; omega)
    have HST1 : St w (ow p (.slice a1 K.length c1) (.slice a2 V.length c2) v3) w p (.slice a1 n c1) (.slice a2 n c2) v3 (.slice a1 n c1) (.slice a2 n c2) v3 K V [] [] := by
      have h0 := HST0
      rw [show ow p (.slice a1 n c1) (.slice a2 n c2) v3 = ow p (.slice a1 K.length c1) (.slice a2 V.length c2) v3 from by rw [HKV.out, HN.out]] at h0
      exact h0
    generalize ow p (.slice a1 K.length c1) (.slice a2 V.length c2) v3 = F0 at *
    have HST := HST1.drew
    clear HST0 HST1 HB HL HO
    go_wp2_with fail
    refine wp_region_noPanic ?_
    refine wp_region_J (S := fun u : World => u.cell? ⟨p, 0, none⟩ = some (.slice a1 n c1) ∧ u.cell? ⟨p, 1, none⟩ = some (.slice a2 n c2)) (fun j => j == 20 || j == 23) (by kernel_rfl) ?_
    obtain ⟨u0, hu0⟩ : ∃ u, w.drew = u := ⟨_, rfl⟩
    rw [hu0] at HST ⊢
    clear hu0
    have hHeld : (fun u : World => u.cell? ⟨p, 0, none⟩ = some (.slice a1 n c1) ∧ u.cell? ⟨p, 1, none⟩ = some (.slice a2 n c2)) u0 := ⟨HST.cell.1, HST.cell.2.1⟩
    refine wpAnyJ_take0 (i := 0) (v := ?_) rfl (by kernel_rfl) (by kernel_rfl) (by kernel_rfl) (fun _ _ _ h => h) (Or.inl ⟨by rfl, ?_⟩) ?_
    rotate_left
    focus ((intro w hSw; clear hSw; go_simp); try with_reducible rfl)
    (try simp only [Act.put, List.getElem_toArray, List.getElem_cons_zero, List.getElem_cons_succ, List.setIfInBounds_toArray, List.set_cons_zero, List.set_cons_succ])
    refine wpAnyJ_take0 (i := 1) (v := ?_) rfl (by kernel_rfl) (by kernel_rfl) (by kernel_rfl) (fun _ _ _ h => h) (Or.inl ⟨by rfl, ?_⟩) ?_
    rotate_left
    focus ((intro w hSw; clear hSw; go_simp); try with_reducible rfl)
    (try simp only [Act.put, List.getElem_toArray, List.getElem_cons_zero, List.getElem_cons_succ, List.setIfInBounds_toArray, List.set_cons_zero, List.set_cons_succ])
    refine wpAnyJ_take0 (i := 2) (v := ?_) rfl (by kernel_rfl) (by kernel_rfl) (by kernel_rfl) (fun _ _ _ h => h) (Or.inl ⟨by rfl, ?_⟩) ?_
    rotate_left
    focus ((intro w hSw; clear hSw; go_simp); try with_reducible rfl)
    (try simp only [Act.put, List.getElem_toArray, List.getElem_cons_zero, List.getElem_cons_succ, List.setIfInBounds_toArray, List.set_cons_zero, List.set_cons_succ])
    refine wpAnyJ_take0 (i := 3) (v := ?_) rfl (by kernel_rfl) (by kernel_rfl) (by kernel_rfl) (fun _ _ _ h => h) (Or.inl ⟨by rfl, ?_⟩) ?_
    rotate_left
    focus ((intro w hSw; clear hSw; go_simp); try with_reducible rfl)
    (try simp only [Act.put, List.getElem_toArray, List.getElem_cons_zero, List.getElem_cons_succ, List.setIfInBounds_toArray, List.set_cons_zero, List.set_cons_succ])
    refine wpAnyJ_take0 (i := 4) (v := ?_) rfl (by kernel_rfl) (by kernel_rfl) (by kernel_rfl) (fun _ _ _ h => h) (Or.inl ⟨by rfl, ?_⟩) ?_
    rotate_left
    focus ((intro w hSw; clear hSw; go_simp); try with_reducible rfl)
    (try simp only [Act.put, List.getElem_toArray, List.getElem_cons_zero, List.getElem_cons_succ, List.setIfInBounds_toArray, List.set_cons_zero, List.set_cons_succ])
    refine wpAnyJ_take (i := 5) (v := ?_) rfl (by kernel_rfl) (by kernel_rfl) (by kernel_rfl) (by kernel_rfl) (fun _ _ _ h => h) (Or.inl ⟨by rfl, ?_⟩) (by assumption) ?_
    rotate_left
    focus ((intro w hSw; (try dsimp only at hSw); go_simp); try with_reducible rfl)
    (try simp only [Act.put, List.getElem_toArray, List.getElem_cons_zero, List.getElem_cons_succ, List.setIfInBounds_toArray, List.set_cons_zero, List.set_cons_succ])
    refine wpAnyJ_take0 (i := 6) (v := ?_) rfl (by kernel_rfl) (by kernel_rfl) (by kernel_rfl) (fun _ _ _ h => h) (Or.inl ⟨by rfl, ?_⟩) ?_
    rotate_left
    focus ((intro w hSw; clear hSw; go_simp); try with_reducible rfl)
    (try simp only [Act.put, List.getElem_toArray, List.getElem_cons_zero, List.getElem_cons_succ, List.setIfInBounds_toArray, List.set_cons_zero, List.set_cons_succ])
    refine wpAnyJ_take0 (i := 7) (v := ?_) rfl (by kernel_rfl) (by kernel_rfl) (by kernel_rfl) (fun _ _ _ h => h) (Or.inl ⟨by rfl, ?_⟩) ?_
    rotate_left
    focus ((intro w hSw; clear hSw; go_simp); try with_reducible rfl)
    (try simp only [Act.put, List.getElem_toArray, List.getElem_cons_zero, List.getElem_cons_succ, List.setIfInBounds_toArray, List.set_cons_zero, List.set_cons_succ])
    refine wpAnyJ_take0 (i := 10) (v := ?_) rfl (by kernel_rfl) (by kernel_rfl) (by kernel_rfl) (fun _ _ _ h => h) (Or.inl ⟨by rfl, ?_⟩) ?_
    rotate_left
    focus ((intro w hSw; clear hSw; go_simp); try with_reducible rfl)
    (try simp only [Act.put, List.getElem_toArray, List.getElem_cons_zero, List.getElem_cons_succ, List.setIfInBounds_toArray, List.set_cons_zero, List.set_cons_succ])
    refine wpAnyJ_take0 (i := 11) (v := ?_) rfl (by kernel_rfl) (by kernel_rfl) (by kernel_rfl) (fun _ _ _ h => h) (Or.inl ⟨by rfl, ?_⟩) ?_
    rotate_left
    focus ((intro w hSw; clear hSw; go_simp); try with_reducible rfl)
    (try simp only [Act.put, List.getElem_toArray, List.getElem_cons_zero, List.getElem_cons_succ, List.setIfInBounds_toArray, List.set_cons_zero, List.set_cons_succ])
    refine wpAnyJ_take0 (i := 12) (v := ?_) rfl (by kernel_rfl) (by kernel_rfl) (by kernel_rfl) (fun _ _ _ h => h) (Or.inl ⟨by rfl, ?_⟩) ?_
    rotate_left
    focus ((intro w hSw; clear hSw; go_simp); try with_reducible rfl)
    (try simp only [Act.put, List.getElem_toArray, List.getElem_cons_zero, List.getElem_cons_succ, List.setIfInBounds_toArray, List.set_cons_zero, List.set_cons_succ])
    refine wpAnyJ_take (i := 13) (v := ?_) rfl (by kernel_rfl) (by kernel_rfl) (by kernel_rfl) (by kernel_rfl) (fun _ _ _ h => h) (Or.inl ⟨by rfl, ?_⟩) (by assumption) ?_
    rotate_left
    focus ((intro w hSw; (try dsimp only at hSw); go_simp); try with_reducible rfl)
    (try simp only [Act.put, List.getElem_toArray, List.getElem_cons_zero, List.getElem_cons_succ, List.setIfInBounds_toArray, List.set_cons_zero, List.set_cons_succ])
    refine wpAnyJ_take0 (i := 14) (v := ?_) rfl (by kernel_rfl) (by kernel_rfl) (by kernel_rfl) (fun _ _ _ h => h) (Or.inl ⟨by rfl, ?_⟩) ?_
    rotate_left
    focus ((intro w hSw; clear hSw; go_simp); try with_reducible rfl)
    (try simp only [Act.put, List.getElem_toArray, List.getElem_cons_zero, List.getElem_cons_succ, List.setIfInBounds_toArray, List.set_cons_zero, List.set_cons_succ])
    refine wpAnyJ_take0 (i := 15) (v := ?_) rfl (by kernel_rfl) (by kernel_rfl) (by kernel_rfl) (fun _ _ _ h => h) (Or.inl ⟨by rfl, ?_⟩) ?_
    rotate_left
    focus ((intro w hSw; clear hSw; go_simp); try with_reducible rfl)
    (try simp only [Act.put, List.getElem_toArray, List.getElem_cons_zero, List.getElem_cons_succ, List.setIfInBounds_toArray, List.set_cons_zero, List.set_cons_succ])
    refine wpAnyJ_ready (rs := [8, 16]) (by kernel_rfl) (by simp) ?_
    refine AllReadyJ.cons rfl (fun K hK => ?_) (AllReadyJ.cons rfl (fun K hK => ?_) AllReadyJ.nil)
    · go_simp
      replace HST := HST.alloc (.string key) 9
      have hH2 : (fun u : World => u.cell? ⟨p, 0, none⟩ = some (.slice a1 n c1) ∧ u.cell? ⟨p, 1, none⟩ = some (.slice a2 n c2)) (u0.alloc (.cells #[.string key] 9)) := ⟨HST.cell.1, HST.cell.2.1⟩
      refine hK.out _ _ (fun _ _ => hH2) ?_
      clear hK K
      generalize u0.heap.size = vb1 at HST ⊢
      generalize u0.alloc (.cells #[.string key] 9) = u1 at HST hH2 ⊢
      clear hHeld
      have hHeld := hH2
      clear hH2
      clear u0
      revert u1
      intro u0 HST hHeld
      (try simp only [Act.put, List.getElem_toArray, List.getElem_cons_zero, List.getElem_cons_succ, List.setIfInBounds_toArray, List.set_cons_zero, List.set_cons_succ])
      refine wpAnyJ_ready (rs := [9, 16]) (by kernel_rfl) (by simp) ?_
      refine AllReadyJ.cons rfl (fun K hK => ?_) (AllReadyJ.cons rfl (fun K hK => ?_) AllReadyJ.nil)
      · go_simp
        go_at_call 42
        refine (HST.ins1 (vb := vb1) (x := key) (i := r) (by simp) HRK.out.1 HRK.out.2.1).mono ?_
        rintro e u1 ⟨g1, c1', rfl, HST2⟩
        have hH2 : (fun u : World => u.cell? ⟨p, 0, none⟩ = some (.slice a1 n c1) ∧ u.cell? ⟨p, 1, none⟩ = some (.slice a2 n c2)) u1 := ⟨HST2.cell.1, HST2.cell.2.1⟩
        refine hK.out _ _ (fun _ _ => hH2) ?_
        clear hK K
        clear HST hHeld
        have HST := HST2
        have hHeld := hH2
        clear HST2 hH2 u0
        revert u1
        intro u0 HST hHeld
        (try simp only [Act.put, List.getElem_toArray, List.getElem_cons_zero, List.getElem_cons_succ, List.setIfInBounds_toArray, List.set_cons_zero, List.set_cons_succ])
        refine wpAnyJ_ready (rs := [16]) (by kernel_rfl) (by simp) ?_
        refine AllReadyJ.cons rfl (fun K hK => ?_) AllReadyJ.nil
        go_simp
        replace HST := HST.alloc (.int .i64 x) 2
        have hH2 : (fun u : World => u.cell? ⟨p, 0, none⟩ = some (.slice a1 n c1) ∧ u.cell? ⟨p, 1, none⟩ = some (.slice a2 n c2)) (u0.alloc (.cells #[.int .i64 x] 2)) := ⟨HST.cell.1, HST.cell.2.1⟩
        refine hK.out _ _ (fun _ _ => hH2) ?_
        clear hK K
        generalize u0.heap.size = vb2 at HST ⊢
        generalize u0.alloc (.cells #[.int .i64 x] 2) = u1 at HST hH2 ⊢
        clear hHeld
        have hHeld := hH2
        clear hH2
        clear u0
        revert u1
        intro u0 HST hHeld
        (try simp only [Act.put, List.getElem_toArray, List.getElem_cons_zero, List.getElem_cons_succ, List.setIfInBounds_toArray, List.set_cons_zero, List.set_cons_succ])
        refine wpAnyJ_ready (rs := [17]) (by kernel_rfl) (by simp) ?_
        refine AllReadyJ.cons rfl (fun K hK => ?_) AllReadyJ.nil
        go_simp
        go_at_call 43
        refine (HST.ins2 (vb := vb2) (x := x) (i := r) (by simp [numV]) HRK.out.2.2.1 HRK.out.2.2.2).mono ?_
        rintro e u1 ⟨g2, c2', rfl, HST2⟩
        have hH2 : (fun u : World => u.cell? ⟨p, 0, none⟩ = some (.slice a1 n c1) ∧ u.cell? ⟨p, 1, none⟩ = some (.slice a2 n c2)) u1 := ⟨HST2.cell.1, HST2.cell.2.1⟩
        refine hK.out _ _ (fun _ _ => hH2) ?_
        clear hK K
        clear HST hHeld
        have HST := HST2
        have hHeld := hH2
        clear HST2 hH2 u0
        revert u1
        intro u0 HST hHeld
        (try simp only [Act.put, List.getElem_toArray, List.getElem_cons_zero, List.getElem_cons_succ, List.setIfInBounds_toArray, List.set_cons_zero, List.set_cons_succ])
        refine wpAnyJ_take0 (i := 18) (v := ?_) rfl (by kernel_rfl) (by kernel_rfl) (by kernel_rfl) (fun _ _ _ h => h) (Or.inl ⟨by rfl, ?_⟩) ?_
        rotate_left
        focus ((intro w hSw; clear hSw; go_simp); try with_reducible rfl)
        (try simp only [Act.put, List.getElem_toArray, List.getElem_cons_zero, List.getElem_cons_succ, List.setIfInBounds_toArray, List.set_cons_zero, List.set_cons_succ])
        refine wpAnyJ_take0 (i := 19) (v := ?_) rfl (by kernel_rfl) (by kernel_rfl) (by kernel_rfl) (fun _ _ _ h => h) (Or.inl ⟨by rfl, ?_⟩) ?_
        rotate_left
        focus ((intro w hSw; clear hSw; go_simp); try with_reducible rfl)
        (try simp only [Act.put, List.getElem_toArray, List.getElem_cons_zero, List.getElem_cons_succ, List.setIfInBounds_toArray, List.set_cons_zero, List.set_cons_succ])
        refine wpAnyJ_ready (rs := [20]) (by kernel_rfl) (by simp) ?_
        refine AllReadyJ.cons rfl (fun K hK => ?_) AllReadyJ.nil
        have hz1 := HST.cell.2.2.2 0
        have hz2 := HST.cell.1
        go_simp
        clear hz1 hz2
        replace HST := HST.put0 (.slice (some ⟨g1, 0, none⟩) (n + 1) c1')
        refine hK.out _ _ (fun h => absurd h (by decide)) ?_
        clear hK K
        generalize u0.setCell ⟨p, 0, none⟩ (.slice (some ⟨g1, 0, none⟩) (n + 1) c1') = u1 at HST ⊢
        (try clear hHeld)
        clear u0
        revert u1
        intro u0 HST
        (try simp only [Act.put, List.getElem_toArray, List.getElem_cons_zero, List.getElem_cons_succ, List.setIfInBounds_toArray, List.set_cons_zero, List.set_cons_succ])
        refine wpAnyJ_take0 (i := 21) (v := ?_) rfl (by kernel_rfl) (by kernel_rfl) (by kernel_rfl) (fun _ _ _ h => h) (Or.inl ⟨by rfl, ?_⟩) ?_
        rotate_left
        focus ((intro w hSw; clear hSw; go_simp); try with_reducible rfl)
        (try simp only [Act.put, List.getElem_toArray, List.getElem_cons_zero, List.getElem_cons_succ, List.setIfInBounds_toArray, List.set_cons_zero, List.set_cons_succ])
        refine wpAnyJ_take0 (i := 22) (v := ?_) rfl (by kernel_rfl) (by kernel_rfl) (by kernel_rfl) (fun _ _ _ h => h) (Or.inl ⟨by rfl, ?_⟩) ?_
        rotate_left
        focus ((intro w hSw; clear hSw; go_simp); try with_reducible rfl)
        (try simp only [Act.put, List.getElem_toArray, List.getElem_cons_zero, List.getElem_cons_succ, List.setIfInBounds_toArray, List.set_cons_zero, List.set_cons_succ])
        refine wpAnyJ_ready (rs := [23]) (by kernel_rfl) (by simp) ?_
        refine AllReadyJ.cons rfl (fun K hK => ?_) AllReadyJ.nil
        have hz1 := HST.cell.2.2.2 1
        have hz2 := HST.cell.2.1
        go_simp
        clear hz1 hz2
        replace HST := HST.put1 (.slice (some ⟨g2, 0, none⟩) (n + 1) c2')
        refine hK.out _ _ (fun h => absurd h (by decide)) ?_
        clear hK K
        generalize u0.setCell ⟨p, 1, none⟩ (.slice (some ⟨g2, 0, none⟩) (n + 1) c2') = u1 at HST ⊢
        (try clear hHeld)
        clear u0
        revert u1
        intro u0 HST
        (try simp only [Act.put, List.getElem_toArray, List.getElem_cons_zero, List.getElem_cons_succ, List.setIfInBounds_toArray, List.set_cons_zero, List.set_cons_succ])
        refine wpAnyJ_done (by kernel_rfl) ?_ _
        refine NoPanic.normal ?_
        go_wp2_with fail
        exact HFIN.out g1 c1' g2 c2' _ _ HST
      · go_simp
        replace HST := HST.alloc (.int .i64 x) 2
        have hH2 : (fun u : World => u.cell? ⟨p, 0, none⟩ = some (.slice a1 n c1) ∧ u.cell? ⟨p, 1, none⟩ = some (.slice a2 n c2)) (u0.alloc (.cells #[.int .i64 x] 2)) := ⟨HST.cell.1, HST.cell.2.1⟩
        refine hK.out _ _ (fun _ _ => hH2) ?_
        clear hK K
        generalize u0.heap.size = vb2 at HST ⊢
        generalize u0.alloc (.cells #[.int .i64 x] 2) = u1 at HST hH2 ⊢
        clear hHeld
        have hHeld := hH2
        clear hH2
        clear u0
        revert u1
        intro u0 HST hHeld
        (try simp only [Act.put, List.getElem_toArray, List.getElem_cons_zero, List.getElem_cons_succ, List.setIfInBounds_toArray, List.set_cons_zero, List.set_cons_succ])
        refine wpAnyJ_ready (rs := [9]) (by kernel_rfl) (by simp) ?_
        refine AllReadyJ.cons rfl (fun K hK => ?_) AllReadyJ.nil
        go_simp
        go_at_call 42
        refine (HST.ins1 (vb := vb1) (x := key) (i := r) (by simp) HRK.out.1 HRK.out.2.1).mono ?_
        rintro e u1 ⟨g1, c1', rfl, HST2⟩
        have hH2 : (fun u : World => u.cell? ⟨p, 0, none⟩ = some (.slice a1 n c1) ∧ u.cell? ⟨p, 1, none⟩ = some (.slice a2 n c2)) u1 := ⟨HST2.cell.1, HST2.cell.2.1⟩
        refine hK.out _ _ (fun _ _ => hH2) ?_
        clear hK K
        clear HST hHeld
        have HST := HST2
        have hHeld := hH2
        clear HST2 hH2 u0
        revert u1
        intro u0 HST hHeld
        (try simp only [Act.put, List.getElem_toArray, List.getElem_cons_zero, List.getElem_cons_succ, List.setIfInBounds_toArray, List.set_cons_zero, List.set_cons_succ])
        refine wpAnyJ_ready (rs := [17]) (by kernel_rfl) (by simp) ?_
        refine AllReadyJ.cons rfl (fun K hK => ?_) AllReadyJ.nil
        go_simp
        go_at_call 43
        refine (HST.ins2 (vb := vb2) (x := x) (i := r) (by simp [numV]) HRK.out.2.2.1 HRK.out.2.2.2).mono ?_
        rintro e u1 ⟨g2, c2', rfl, HST2⟩
        have hH2 : (fun u : World => u.cell? ⟨p, 0, none⟩ = some (.slice a1 n c1) ∧ u.cell? ⟨p, 1, none⟩ = some (.slice a2 n c2)) u1 := ⟨HST2.cell.1, HST2.cell.2.1⟩
        refine hK.out _ _ (fun _ _ => hH2) ?_
        clear hK K
        clear HST hHeld
        have HST := HST2
        have hHeld := hH2
        clear HST2 hH2 u0
        revert u1
        intro u0 HST hHeld
        (try simp only [Act.put, List.getElem_toArray, List.getElem_cons_zero, List.getElem_cons_succ, List.setIfInBounds_toArray, List.set_cons_zero, List.set_cons_succ])
        refine wpAnyJ_take0 (i := 18) (v := ?_) rfl (by kernel_rfl) (by kernel_rfl) (by kernel_rfl) (fun _ _ _ h => h) (Or.inl ⟨by rfl, ?_⟩) ?_
        rotate_left
        focus ((intro w hSw; clear hSw; go_simp); try with_reducible rfl)
        (try simp only [Act.put, List.getElem_toArray, List.getElem_cons_zero, List.getElem_cons_succ, List.setIfInBounds_toArray, List.set_cons_zero, List.set_cons_succ])
        refine wpAnyJ_take0 (i := 19) (v := ?_) rfl (by kernel_rfl) (by kernel_rfl) (by kernel_rfl) (fun _ _ _ h => h) (Or.inl ⟨by rfl, ?_⟩) ?_
        rotate_left
        focus ((intro w hSw; clear hSw; go_simp); try with_reducible rfl)
        (try simp only [Act.put, List.getElem_toArray, List.getElem_cons_zero, List.getElem_cons_succ, List.setIfInBounds_toArray, List.set_cons_zero, List.set_cons_succ])
        refine wpAnyJ_ready (rs := [20]) (by kernel_rfl) (by simp) ?_
        refine AllReadyJ.cons rfl (fun K hK => ?_) AllReadyJ.nil
        have hz1 := HST.cell.2.2.2 0
        have hz2 := HST.cell.1
        go_simp
        clear hz1 hz2
        replace HST := HST.put0 (.slice (some ⟨g1, 0, none⟩) (n + 1) c1')
        refine hK.out _ _ (fun h => absurd h (by decide)) ?_
        clear hK K
        generalize u0.setCell ⟨p, 0, none⟩ (.slice (some ⟨g1, 0, none⟩) (n + 1) c1') = u1 at HST ⊢
        (try clear hHeld)
        clear u0
        revert u1
        intro u0 HST
        (try simp only [Act.put, List.getElem_toArray, List.getElem_cons_zero, List.getElem_cons_succ, List.setIfInBounds_toArray, List.set_cons_zero, List.set_cons_succ])
        refine wpAnyJ_take0 (i := 21) (v := ?_) rfl (by kernel_rfl) (by kernel_rfl) (by kernel_rfl) (fun _ _ _ h => h) (Or.inl ⟨by rfl, ?_⟩) ?_
        rotate_left
        focus ((intro w hSw; clear hSw; go_simp); try with_reducible rfl)
        (try simp only [Act.put, List.getElem_toArray, List.getElem_cons_zero, List.getElem_cons_succ, List.setIfInBounds_toArray, List.set_cons_zero, List.set_cons_succ])
        refine wpAnyJ_take0 (i := 22) (v := ?_) rfl (by kernel_rfl) (by kernel_rfl) (by kernel_rfl) (fun _ _ _ h => h) (Or.inl ⟨by rfl, ?_⟩) ?_
        rotate_left
        focus ((intro w hSw; clear hSw; go_simp); try with_reducible rfl)
        (try simp only [Act.put, List.getElem_toArray, List.getElem_cons_zero, List.getElem_cons_succ, List.setIfInBounds_toArray, List.set_cons_zero, List.set_cons_succ])
        refine wpAnyJ_ready (rs := [23]) (by kernel_rfl) (by simp) ?_
        refine AllReadyJ.cons rfl (fun K hK => ?_) AllReadyJ.nil
        have hz1 := HST.cell.2.2.2 1
        have hz2 := HST.cell.2.1
        go_simp
        clear hz1 hz2
        replace HST := HST.put1 (.slice (some ⟨g2, 0, none⟩) (n + 1) c2')
        refine hK.out _ _ (fun h => absurd h (by decide)) ?_
        clear hK K
        generalize u0.setCell ⟨p, 1, none⟩ (.slice (some ⟨g2, 0, none⟩) (n + 1) c2') = u1 at HST ⊢
        (try clear hHeld)
        clear u0
        revert u1
        intro u0 HST
        (try simp only [Act.put, List.getElem_toArray, List.getElem_cons_zero, List.getElem_cons_succ, List.setIfInBounds_toArray, List.set_cons_zero, List.set_cons_succ])
        refine wpAnyJ_done (by kernel_rfl) ?_ _
        refine NoPanic.normal ?_
        go_wp2_with fail
        exact HFIN.out g1 c1' g2 c2' _ _ HST
    · go_simp
      replace HST := HST.alloc (.int .i64 x) 2
      have hH2 : (fun u : World => u.cell? ⟨p, 0, none⟩ = some (.slice a1 n c1) ∧ u.cell? ⟨p, 1, none⟩ = some (.slice a2 n c2)) (u0.alloc (.cells #[.int .i64 x] 2)) := ⟨HST.cell.1, HST.cell.2.1⟩
      refine hK.out _ _ (fun _ _ => hH2) ?_
      clear hK K
      generalize u0.heap.size = vb2 at HST ⊢
      generalize u0.alloc (.cells #[.int .i64 x] 2) = u1 at HST hH2 ⊢
      clear hHeld
      have hHeld := hH2
      clear hH2
      clear u0
      revert u1
      intro u0 HST hHeld
      (try simp only [Act.put, List.getElem_toArray, List.getElem_cons_zero, List.getElem_cons_succ, List.setIfInBounds_toArray, List.set_cons_zero, List.set_cons_succ])
      refine wpAnyJ_ready (rs := [8]) (by kernel_rfl) (by simp) ?_
      refine AllReadyJ.cons rfl (fun K hK => ?_) AllReadyJ.nil
      go_simp
      replace HST := HST.alloc (.string key) 9
      have hH2 : (fun u : World => u.cell? ⟨p, 0, none⟩ = some (.slice a1 n c1) ∧ u.cell? ⟨p, 1, none⟩ = some (.slice a2 n c2)) (u0.alloc (.cells #[.string key] 9)) := ⟨HST.cell.1, HST.cell.2.1⟩
      refine hK.out _ _ (fun _ _ => hH2) ?_
      clear hK K
      generalize u0.heap.size = vb1 at HST ⊢
      generalize u0.alloc (.cells #[.string key] 9) = u1 at HST hH2 ⊢
      clear hHeld
      have hHeld := hH2
      clear hH2
      clear u0
      revert u1
      intro u0 HST hHeld
      (try simp only [Act.put, List.getElem_toArray, List.getElem_cons_zero, List.getElem_cons_succ, List.setIfInBounds_toArray, List.set_cons_zero, List.set_cons_succ])
      refine wpAnyJ_ready (rs := [9]) (by kernel_rfl) (by simp) ?_
      refine AllReadyJ.cons rfl (fun K hK => ?_) AllReadyJ.nil
      go_simp
      go_at_call 42
      refine (HST.ins1 (vb := vb1) (x := key) (i := r) (by simp) HRK.out.1 HRK.out.2.1).mono ?_
      rintro e u1 ⟨g1, c1', rfl, HST2⟩
      have hH2 : (fun u : World => u.cell? ⟨p, 0, none⟩ = some (.slice a1 n c1) ∧ u.cell? ⟨p, 1, none⟩ = some (.slice a2 n c2)) u1 := ⟨HST2.cell.1, HST2.cell.2.1⟩
      refine hK.out _ _ (fun _ _ => hH2) ?_
      clear hK K
      clear HST hHeld
      have HST := HST2
      have hHeld := hH2
      clear HST2 hH2 u0
      revert u1
      intro u0 HST hHeld
      (try simp only [Act.put, List.getElem_toArray, List.getElem_cons_zero, List.getElem_cons_succ, List.setIfInBounds_toArray, List.set_cons_zero, List.set_cons_succ])
      refine wpAnyJ_ready (rs := [17]) (by kernel_rfl) (by simp) ?_
      refine AllReadyJ.cons rfl (fun K hK => ?_) AllReadyJ.nil
      go_simp
      go_at_call 43
      refine (HST.ins2 (vb := vb2) (x := x) (i := r) (by simp [numV]) HRK.out.2.2.1 HRK.out.2.2.2).mono ?_
      rintro e u1 ⟨g2, c2', rfl, HST2⟩
      have hH2 : (fun u : World => u.cell? ⟨p, 0, none⟩ = some (.slice a1 n c1) ∧ u.cell? ⟨p, 1, none⟩ = some (.slice a2 n c2)) u1 := ⟨HST2.cell.1, HST2.cell.2.1⟩
      refine hK.out _ _ (fun _ _ => hH2) ?_
      clear hK K
      clear HST hHeld
      have HST := HST2
      have hHeld := hH2
      clear HST2 hH2 u0
      revert u1
      intro u0 HST hHeld
      (try simp only [Act.put, List.getElem_toArray, List.getElem_cons_zero, List.getElem_cons_succ, List.setIfInBounds_toArray, List.set_cons_zero, List.set_cons_succ])
      refine wpAnyJ_take0 (i := 18) (v := ?_) rfl (by kernel_rfl) (by kernel_rfl) (by kernel_rfl) (fun _ _ _ h => h) (Or.inl ⟨by rfl, ?_⟩) ?_
      rotate_left
      focus ((intro w hSw; clear hSw; go_simp); try with_reducible rfl)
      (try simp only [Act.put, List.getElem_toArray, List.getElem_cons_zero, List.getElem_cons_succ, List.setIfInBounds_toArray, List.set_cons_zero, List.set_cons_succ])
      refine wpAnyJ_take0 (i := 19) (v := ?_) rfl (by kernel_rfl) (by kernel_rfl) (by kernel_rfl) (fun _ _ _ h => h) (Or.inl ⟨by rfl, ?_⟩) ?_
      rotate_left
      focus ((intro w hSw; clear hSw; go_simp); try with_reducible rfl)
      (try simp only [Act.put, List.getElem_toArray, List.getElem_cons_zero, List.getElem_cons_succ, List.setIfInBounds_toArray, List.set_cons_zero, List.set_cons_succ])
      refine wpAnyJ_ready (rs := [20]) (by kernel_rfl) (by simp) ?_
      refine AllReadyJ.cons rfl (fun K hK => ?_) AllReadyJ.nil
      have hz1 := HST.cell.2.2.2 0
      have hz2 := HST.cell.1
      go_simp
      clear hz1 hz2
      replace HST := HST.put0 (.slice (some ⟨g1, 0, none⟩) (n + 1) c1')
      refine hK.out _ _ (fun h => absurd h (by decide)) ?_
      clear hK K
      generalize u0.setCell ⟨p, 0, none⟩ (.slice (some ⟨g1, 0, none⟩) (n + 1) c1') = u1 at HST ⊢
      (try clear hHeld)
      clear u0
      revert u1
      intro u0 HST
      (try simp only [Act.put, List.getElem_toArray, List.getElem_cons_zero, List.getElem_cons_succ, List.setIfInBounds_toArray, List.set_cons_zero, List.set_cons_succ])
      refine wpAnyJ_take0 (i := 21) (v := ?_) rfl (by kernel_rfl) (by kernel_rfl) (by kernel_rfl) (fun _ _ _ h => h) (Or.inl ⟨by rfl, ?_⟩) ?_
      rotate_left
      focus ((intro w hSw; clear hSw; go_simp); try with_reducible rfl)
      (try simp only [Act.put, List.getElem_toArray, List.getElem_cons_zero, List.getElem_cons_succ, List.setIfInBounds_toArray, List.set_cons_zero, List.set_cons_succ])
      refine wpAnyJ_take0 (i := 22) (v := ?_) rfl (by kernel_rfl) (by kernel_rfl) (by kernel_rfl) (fun _ _ _ h => h) (Or.inl ⟨by rfl, ?_⟩) ?_
      rotate_left
      focus ((intro w hSw; clear hSw; go_simp); try with_reducible rfl)
      (try simp only [Act.put, List.getElem_toArray, List.getElem_cons_zero, List.getElem_cons_succ, List.setIfInBounds_toArray, List.set_cons_zero, List.set_cons_succ])
      refine wpAnyJ_ready (rs := [23]) (by kernel_rfl) (by simp) ?_
      refine AllReadyJ.cons rfl (fun K hK => ?_) AllReadyJ.nil
      have hz1 := HST.cell.2.2.2 1
      have hz2 := HST.cell.2.1
      go_simp
      clear hz1 hz2
      replace HST := HST.put1 (.slice (some ⟨g2, 0, none⟩) (n + 1) c2')
      refine hK.out _ _ (fun h => absurd h (by decide)) ?_
      clear hK K
      generalize u0.setCell ⟨p, 1, none⟩ (.slice (some ⟨g2, 0, none⟩) (n + 1) c2') = u1 at HST ⊢
      (try clear hHeld)
      clear u0
      revert u1
      intro u0 HST
      (try simp only [Act.put, List.getElem_toArray, List.getElem_cons_zero, List.getElem_cons_succ, List.setIfInBounds_toArray, List.set_cons_zero, List.set_cons_succ])
      refine wpAnyJ_done (by kernel_rfl) ?_ _
      refine NoPanic.normal ?_
      go_wp2_with fail
      exact HFIN.out g1 c1' g2 c2' _ _ HST
end Go.Proofs.Ytjoopjmcnkiieaa

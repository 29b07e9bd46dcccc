/- Whether two rows of texts have one in common: both sides; the reference's rows with a text more. Conditions: sizes are small. -/
import Derived.Test.YtaonfacbmolklaaIdx
namespace Go.Proofs.Ytaonfacbmolklaa
open Go.RowKit
set_option linter.unusedSimpArgs false
set_option linter.unusedVariables false

def hasB (l : List ByteArray) (x : ByteArray) : Bool := l.any fun y => decide (x = y)
def meetB (r t : List ByteArray) : Bool := r.any (hasB t)
theorem hasB_iff {l : List ByteArray} {x : ByteArray} : hasB l x = true ↔ x ∈ l := by
  unfold hasB
  rw [List.any_eq_true]
  exact ⟨fun ⟨y, h1, h2⟩ => by rw [of_decide_eq_true h2]; exact h1, fun h => ⟨x, h, decide_eq_true rfl⟩⟩
theorem meetB_iff {r t : List ByteArray} : meetB r t = true ↔ ∃ x, x ∈ r ∧ x ∈ t := by
  unfold meetB
  rw [List.any_eq_true]
  exact ⟨fun ⟨y, h1, h2⟩ => ⟨y, h1, hasB_iff.1 h2⟩, fun ⟨x, h1, h2⟩ => ⟨x, h1, hasB_iff.2 h2⟩⟩
set_option maxRecDepth 100000 in
theorem sindex_any (l : List ByteArray) (x : ByteArray) (a : Option Addr) (c B : Nat) (w : World) (hrow : StrRow B w a l) (hn : l.length ≤ 1099511627776) :
    Calls Try.prog 58 #[.slice a l.length c, .string x] w fun e w' => e = .returned (.int .i64 (idxV (fun y => decide (x = y)) l)) ∧ w = w' := by
  obtain ⟨n, hl⟩ : ∃ n, l.length = n := ⟨_, rfl⟩
  rw [hl] at hn ⊢
  have HR := Lib.hid hrow
  have HLN := Lib.hid hl
  obtain ⟨R, hR⟩ : ∃ R, idxV (fun y => decide (x = y)) l = R := ⟨_, rfl⟩
  have HRR := Lib.hid hR
  rw [hR]
  clear hrow hl hR
  go_enter Try.func58, Try.ntmps58
  go_wp2_with fail
  go_loop [8] (fun iv => ∃ (j : Nat), iv = .int .i64 j ∧ j ≤ n ∧ Hid (∀ (i : Nat) u, i < j → l[i]? = some u → decide (x = u) = false)) (fun iv => n - (intOf iv).toNat)
  case atStart => exact ⟨0, rfl, Nat.zero_le _, Lib.hid (fun _ _ h => absurd h (Nat.not_lt_zero _))⟩
  case round =>
    obtain ⟨j, rfl, hj, HN⟩ := hrel
    by_cases hlt : j < n
    · have hlt' : (j : Int) < n := by omega
      have hj0 : (0 : Int) ≤ (j : Int) := by omega
      obtain ⟨v, hv⟩ : ∃ v, l[j]? = some v := get_some (by have := HLN.out; omega)
      obtain ⟨b, off, rfl, hb, hc⟩ := HR.out.get hv
      have HV := Lib.hid hv
      have hbe := ba_beq x v
      clear hv
      by_cases hxv : x = v
      · have h4 : (x.toList == v.toList) = true := by rw [hbe]; exact decide_eq_true hxv
        have HRJ : Hid (R = (j : Int)) := Lib.hid (by rw [← HRR.out]; exact idxV_at HV.out (decide_eq_true hxv) HN.out)
        clear hbe hxv
        go_wp2_with fail
        go_ret
        exact ⟨by rw [HRJ.out]; rfl, rfl⟩
      · have h4 : (x.toList == v.toList) = false := by rw [hbe]; exact decide_eq_false hxv
        have HX := Lib.hid hxv
        clear hbe hxv
        go_wp2_with fail
        go_round
        case rel => exact ⟨j + 1, by go_num, by omega, Lib.hid (fun i u hi hu => by
            by_cases hij : i = j
            · subst hij; rw [HV.out] at hu; cases hu; exact decide_eq_false HX.out
            · exact HN.out i u (by omega) hu)⟩
        case measure => simp [intOf]; omega
    · have hlt' : ¬ (j : Int) < n := by omega
      have HRJ : Hid (R = -1) := Lib.hid (by rw [← HRR.out]; exact idxV_none (fun i u hu => HN.out i u (by have := (List.getElem?_eq_some_iff.1 hu).1; have := HLN.out; omega) hu))
      go_wp2_with fail
      go_ret
      exact ⟨by rw [HRJ.out]; rfl, rfl⟩
theorem scontains_any (l : List ByteArray) (x : ByteArray) (a : Option Addr) (c B : Nat) (w : World) (hrow : StrRow B w a l) (hn : l.length ≤ 1099511627776) :
    Calls Try.prog 54 #[.slice a l.length c, .string x] w fun e w' => e = .returned (.bool (hasB l x)) ∧ w = w' := by
  have HI := Lib.hid (sindex_any l x a c B w hrow hn)
  have hc := idxV_any (fun y => decide (x = y)) l
  have hh : hasB l x = l.any fun y => decide (x = y) := rfl
  rw [hh]
  obtain ⟨n, hl⟩ : ∃ n, l.length = n := ⟨_, rfl⟩
  rw [hl] at HI ⊢
  generalize (l.any fun y => decide (x = y)) = R at *
  generalize idxV (fun y => decide (x = y)) l = q at *
  clear hrow hn hl hh
  rcases hc with ⟨rfl, rfl⟩ | ⟨m, rfl, -, rfl⟩
  all_goals
    go_enter Try.func54, Try.ntmps54
    go_wp2_with fail
    refine HI.out.mono ?_
    rintro e w1 ⟨rfl, rfl⟩
    go_wp2_with fail
    go_ret
    exact ⟨by rfl, rfl⟩
theorem meet1_any (t : List ByteArray) (x : ByteArray) (a : Option Addr) (c B bx : Nat) (w : World) (hrow : StrRow B w a t) (hn : t.length ≤ 1099511627776) (hc : w.cell? ⟨bx, 0, none⟩ = some (.slice a t.length c)) :
    Calls Try.prog 53 #[.string x, .pointer (some ⟨bx, 0, none⟩)] w fun e w' => e = .returned (.bool (hasB t x)) ∧ w = w' := by
  have HC := Lib.hid (scontains_any t x a c B w hrow hn)
  generalize hasB t x = R at *
  generalize t.length = n at *
  clear hrow hn
  go_enter Try.func53, Try.ntmps53
  go_wp2_with fail
  refine HC.out.mono ?_
  rintro e w1 ⟨rfl, rfl⟩
  go_wp2_with fail
  go_ret
  exact ⟨by rfl, rfl⟩
theorem same_below {P : Program} {f : FuncId} {args : Array Value} {w : World} {v : Value} (h : Calls P f args w fun e w' => e = .returned v ∧ w = w') : Calls P f args w fun e w' => e = .returned v ∧ Below w.heap.size w w' :=
  h.mono fun _ _ ⟨he, hw⟩ => ⟨he, by rw [← hw]; exact Below.refl _ _⟩
theorem meet_any (r t : List ByteArray) (ra ta : Option Addr) (rc tc B : Nat) (w : World) (hr : StrRow B w ra r) (ht : StrRow B w ta t) (hB : B ≤ w.heap.size) (hrn : r.length ≤ 1099511627776) (htn : t.length ≤ 1099511627776) :
    Calls Try.prog 45 #[.slice ra r.length rc, .slice ta t.length tc] w fun e w' => e = .returned (.bool (meetB r t)) ∧ Below w.heap.size w w' := by
  obtain ⟨W0, hW0⟩ : ∃ W0, w.alloc (.cells #[.slice ta t.length tc] 29) = W0 := ⟨_, rfl⟩
  have hbx : Block W0 w.heap.size [.slice ta t.length tc] 29 := by rw [← hW0]; exact Block.new _ _ _
  have hb0 : Below w.heap.size w W0 := by rw [← hW0]; exact (Below.refl _ _).alloc (Nat.le_refl _) _
  have hz : w.heap.size ≤ W0.heap.size := hb0.size
  have hmap : (List.range (r.map Value.string).length).any (fun j => hasB t (r.getD j ⟨#[]⟩)) = meetB r t := by rw [List.length_map]; exact any_range (hasB t) _ r
  have h := cont_meet (r.map Value.string) (fun j => hasB t (r.getD j ⟨#[]⟩)) ra rc w.heap.size B W0 (hr.below hb0 hB) (by omega) (by simpa using hrn) (fun w' j v hb hv => by
    rw [List.getElem?_map] at hv
    cases hx : r[j]? with
    | none => rw [hx] at hv; cases hv
    | some x =>
      rw [hx] at hv
      cases hv
      rw [show r.getD j ⟨#[]⟩ = x from by rw [List.getD_eq_getElem?_getD, hx]; rfl]
      exact same_below (meet1_any t x ta tc B w.heap.size w' ((ht.below hb0 hB).below hb (by omega)) htn ((hbx.below hb hbx.lt).cell rfl)))
  rw [hmap, List.length_map] at h
  have HC := Lib.hid h
  have HB0 := Lib.hid hb0
  have HW0 := Lib.hid hW0
  generalize meetB r t = R at *
  clear h hmap hbx hb0 hz hW0 hr ht hrn htn
  generalize r.length = rn at *
  generalize t.length = tn at *
  go_enter Try.func45, Try.ntmps45
  go_wp2_with fail
  rw [HW0.out]
  refine HC.out.mono ?_
  rintro e w1 ⟨rfl, hb1⟩
  have HB1 := Lib.hid (below_step HB0.out rfl hb1)
  clear hb1
  go_wp2_with fail
  go_ret
  exact ⟨by rfl, HB1.out⟩
set_option maxRecDepth 100000 in
theorem rhas_any (l : List ByteArray) (x : ByteArray) (a : Option Addr) (c B : Nat) (w : World) (hrow : StrRow B w a l) (hn : l.length ≤ 1099511627776) :
    Calls Try.prog 47 #[.slice a l.length c, .string x] w fun e w' => e = .returned (.bool (hasB l x)) ∧ w = w' := by
  obtain ⟨n, hl⟩ : ∃ n, l.length = n := ⟨_, rfl⟩
  rw [hl] at hn ⊢
  have HR := Lib.hid hrow
  have HLN := Lib.hid hl
  obtain ⟨R, hR⟩ : ∃ R, hasB l x = R := ⟨_, rfl⟩
  have HRR := Lib.hid hR
  rw [hR]
  clear hrow hl hR
  go_enter Try.func47, Try.ntmps47
  go_wp2_with fail
  go_loop [5] (fun iv => ∃ (j : Nat), iv = .int .i64 j ∧ j ≤ n ∧ Hid (∀ (i : Nat) u, i < j → l[i]? = some u → ¬ x = u)) (fun iv => n - (intOf iv).toNat)
  case atStart => exact ⟨0, rfl, Nat.zero_le _, Lib.hid (fun _ _ h => absurd h (Nat.not_lt_zero _))⟩
  case round =>
    obtain ⟨j, rfl, hj, HN⟩ := hrel
    by_cases hlt : j < n
    · have hlt' : (j : Int) < n := by omega
      have hj0 : (0 : Int) ≤ (j : Int) := by omega
      obtain ⟨v, hv⟩ : ∃ v, l[j]? = some v := get_some (by have := HLN.out; omega)
      obtain ⟨b, off, rfl, hb, hc⟩ := HR.out.get hv
      have HV := Lib.hid hv
      have hbe := ba_beq v x
      clear hv
      by_cases hxv : v = x
      · have h4 : (v.toList == x.toList) = true := by rw [hbe]; exact decide_eq_true hxv
        have HRJ : Hid (R = true) := Lib.hid (by rw [← HRR.out]; exact hasB_iff.2 (by rw [← hxv]; exact List.mem_of_getElem? HV.out))
        clear hbe hxv
        go_wp2_with fail
        go_ret
        exact ⟨by rw [HRJ.out]; rfl, rfl⟩
      · have h4 : (v.toList == x.toList) = false := by rw [hbe]; exact decide_eq_false hxv
        have HX := Lib.hid hxv
        clear hbe hxv
        go_wp2_with fail
        go_round
        case rel => exact ⟨j + 1, by go_num, by omega, Lib.hid (fun i u hi hu => by
            by_cases hij : i = j
            · subst hij; rw [HV.out] at hu; cases hu; exact fun e => HX.out e.symm
            · exact HN.out i u (by omega) hu)⟩
        case measure => simp [intOf]; omega
    · have hlt' : ¬ (j : Int) < n := by omega
      have HRJ : Hid (R = false) := Lib.hid (by
        rw [← HRR.out]
        cases h : hasB l x with
        | false => rfl
        | true =>
          obtain ⟨i, hi⟩ := List.mem_iff_getElem?.1 (hasB_iff.1 h)
          exact absurd rfl (HN.out i x (by have := (List.getElem?_eq_some_iff.1 hi).1; have := HLN.out; omega) hi))
      go_wp2_with fail
      go_ret
      exact ⟨by rw [HRJ.out]; rfl, rfl⟩
set_option maxRecDepth 100000 in
theorem rmeet_any (r t : List ByteArray) (ra ta : Option Addr) (rc tc B : Nat) (w : World) (hr : StrRow B w ra r) (ht : StrRow B w ta t) (hrn : r.length ≤ 1099511627776) (htn : t.length ≤ 1099511627776) :
    Calls Try.prog 40 #[.slice ra r.length rc, .slice ta t.length tc] w fun e w' => e = .returned (.bool (meetB r t)) ∧ w = w' := by
  have HH := Lib.hid (fun x => rhas_any t x ta tc B w ht htn)
  obtain ⟨n, hl⟩ : ∃ n, r.length = n := ⟨_, rfl⟩
  rw [hl] at hrn ⊢
  have HR := Lib.hid hr
  have HLN := Lib.hid hl
  obtain ⟨R, hR⟩ : ∃ R, meetB r t = R := ⟨_, rfl⟩
  have HRR := Lib.hid hR
  rw [hR]
  clear hr ht htn hl hR
  generalize t.length = tn at *
  go_enter Try.func40, Try.ntmps40
  go_wp2_with fail
  go_loop [5] (fun iv => ∃ (j : Nat), iv = .int .i64 j ∧ j ≤ n ∧ Hid (∀ (i : Nat) u, i < j → r[i]? = some u → hasB t u = false)) (fun iv => n - (intOf iv).toNat)
  case atStart => exact ⟨0, rfl, Nat.zero_le _, Lib.hid (fun _ _ h => absurd h (Nat.not_lt_zero _))⟩
  case round =>
    obtain ⟨j, rfl, hj, HN⟩ := hrel
    by_cases hlt : j < n
    · have hlt' : (j : Int) < n := by omega
      have hj0 : (0 : Int) ≤ (j : Int) := by omega
      obtain ⟨v, hv⟩ : ∃ v, r[j]? = some v := get_some (by have := HLN.out; omega)
      obtain ⟨b, off, rfl, hb, hc⟩ := HR.out.get hv
      have HV := Lib.hid hv
      have HI := Lib.hid (HH.out v)
      clear hv
      cases hp : hasB t v with
      | true =>
        have HRJ : Hid (R = true) := Lib.hid (by rw [← HRR.out]; unfold meetB; rw [List.any_eq_true]; exact ⟨v, List.mem_of_getElem? HV.out, hp⟩)
        rw [hp] at HI
        clear hp
        go_wp2_with fail
        refine HI.out.mono ?_
        rintro e w1 ⟨rfl, rfl⟩
        go_wp2_with fail
        go_ret
        exact ⟨by rw [HRJ.out]; rfl, rfl⟩
      | false =>
        have HX := Lib.hid hp
        rw [hp] at HI
        clear hp
        go_wp2_with fail
        refine HI.out.mono ?_
        rintro e w1 ⟨rfl, rfl⟩
        go_wp2_with fail
        go_round
        case rel => exact ⟨j + 1, by go_num, by omega, Lib.hid (fun i u hi hu => by
            by_cases hij : i = j
            · subst hij; rw [HV.out] at hu; cases hu; exact HX.out
            · exact HN.out i u (by omega) hu)⟩
        case measure => simp [intOf]; omega
    · have hlt' : ¬ (j : Int) < n := by omega
      have HRJ : Hid (R = false) := Lib.hid (by
        rw [← HRR.out]
        unfold meetB
        rw [List.any_eq_false]
        intro x hx
        obtain ⟨i, hi⟩ := List.mem_iff_getElem?.1 hx
        rw [HN.out i x (by have := (List.getElem?_eq_some_iff.1 hi).1; have := HLN.out; omega) hi]
        decide)
      go_wp2_with fail
      go_ret
      exact ⟨by rw [HRJ.out]; rfl, rfl⟩
end Go.Proofs.Ytaonfacbmolklaa

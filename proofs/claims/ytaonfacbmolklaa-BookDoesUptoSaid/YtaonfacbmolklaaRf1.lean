/- The reference's book: Find. Conditions: sizes are small. -/
import Derived.Test.YtaonfacbmolklaaRf
namespace Go.Proofs.Ytaonfacbmolklaa
open Go.RowKit
set_option linter.unusedSimpArgs false
set_option linter.unusedVariables false

def placeB (es : List E) (who : Int) : Int := match findB es who with
  | none => -1
  | some k => (k : Int)
theorem findB_at {es : List E} {who : Int} {j : Nat} {e : E} (he : es[j]? = some e) (hp : e.who = who ∧ e.end_ = 0) (hn : ∀ (i : Nat) u, i < j → es[i]? = some u → ¬ (u.who = who ∧ u.end_ = 0)) : findB es who = some j := by
  unfold findB
  rw [List.findIdx?_eq_some_iff_getElem]
  obtain ⟨h1, h2⟩ := List.getElem?_eq_some_iff.1 he
  refine ⟨h1, by rw [h2]; exact decide_eq_true hp, fun i hi => ?_⟩
  have := hn i es[i] hi (List.getElem?_eq_getElem (by omega))
  simpa using this
theorem findB_none {es : List E} {who : Int} (hn : ∀ (i : Nat) u, es[i]? = some u → ¬ (u.who = who ∧ u.end_ = 0)) : findB es who = none := by
  unfold findB
  rw [List.findIdx?_eq_none_iff]
  intro u hu
  obtain ⟨i, hi⟩ := List.mem_iff_getElem?.1 hu
  have := hn i u hi
  simpa using this
set_option maxRecDepth 100000 in
set_option maxHeartbeats 4000000 in
theorem rfind_any (w : World) (B P : Nat) (last who : Int) (S : Nat → Prop) (lv : Value) (zs : List Z) (h : IsRef w B P last S lv zs) (hn : zs.length ≤ 1000000) :
    Calls Try.prog 29 #[.pointer (some ⟨P, 0, none⟩), .int .i64 who] w fun e w' => e = .returned (.int .i64 (placeB (zs.map fun z => z.1) who)) ∧ w = w' := by
  obtain ⟨a, c, rfl⟩ := own_form h.row
  have c0 := h.blk.cell (i := 0) rfl
  have HI := Lib.hid h
  obtain ⟨n, hl⟩ : ∃ n, zs.length = n := ⟨_, rfl⟩
  rw [hl] at hn c0
  have HL := Lib.hid hl
  obtain ⟨R, hR⟩ : ∃ R, placeB (zs.map fun z => z.1) who = R := ⟨_, rfl⟩
  have HR := Lib.hid hR
  rw [hR]
  clear h hl hR
  go_enter Try.func29, Try.ntmps29
  go_wp2_with fail
  go_loopw [5] (fun jv wr => ∃ (j : Nat), jv = .int .i64 j ∧ j ≤ n ∧ wr = w ∧ Hid (∀ (i : Nat) z, i < j → zs[i]? = some z → ¬ (z.1.who = who ∧ z.1.end_ = 0))) (fun jv _ => n - (intOf jv).toNat)
  case atStart => exact ⟨0, rfl, Nat.zero_le _, rfl, Lib.hid (fun i z hi => absurd hi (Nat.not_lt_zero _))⟩
  case round =>
    obtain ⟨j, rfl, hj, rfl, HN⟩ := hrel
    by_cases hlt : j < n
    · have hlt' : (j : Int) < n := by omega
      have hj0 : (0 : Int) ≤ (j : Int) := by omega
      obtain ⟨z, hz⟩ : ∃ z, zs[j]? = some z := get_some (by have := HL.out; omega)
      obtain ⟨g, c', hac, hg, hc⟩ := HI.out.cell hz
      injection hac with e1 e2 e3
      subst e1
      clear e2 e3
      have y0 := hc 0 _ rfl
      have y2 := hc 2 _ rfl
      rw [Nat.add_zero] at y0
      have HZ := Lib.hid hz
      have HH : Hid (z.1.who = who ∧ z.1.end_ = 0 → R = (j : Int)) := Lib.hid (fun hp => by
        have h1 := findB_at (es := zs.map fun z => z.1) (who := who) (j := j) (e := z.1) (by rw [List.getElem?_map, HZ.out]; rfl) hp (fun i u hi hu => by
          rw [List.getElem?_map] at hu
          cases hq : zs[i]? with
          | none => rw [hq] at hu; cases hu
          | some z' => rw [hq] at hu; cases hu; exact HN.out i z' hi hq)
        rw [← HR.out]; unfold placeB; rw [h1])
      have HS : Hid (¬ (z.1.who = who ∧ z.1.end_ = 0) → ∀ (i : Nat) z, i < j + 1 → zs[i]? = some z → ¬ (z.1.who = who ∧ z.1.end_ = 0)) := Lib.hid (fun hp i z' hi hz' => by
        by_cases hij : i = j
        · subst hij; rw [HZ.out] at hz'; injection hz' with e; subst e; exact hp
        · exact HN.out i z' (by omega) hz')
      generalize z.1.who = zw at *
      generalize z.1.end_ = ze at *
      clear hz hc
      by_cases hw : zw = who
      · have hw' : (zw == who) = true := by simpa using hw
        by_cases he : ze = 0
        · have he' : (ze == 0) = true := by simpa using he
          have HRJ := Lib.hid (HH.out ⟨hw, he⟩)
          clear hw he
          go_wp2_with fail
          go_ret
          exact ⟨by rw [HRJ.out]; rfl, rfl⟩
        · have he' : (ze == 0) = false := by simpa using he
          have HSJ := Lib.hid (HS.out (fun h => he h.2))
          clear hw he
          go_wp2_with fail
          go_roundw
          case rel => exact ⟨j + 1, by go_num, by omega, (by first | exact trivial | rfl), HSJ⟩
          case measure => simp [intOf]; omega
      · have hw' : (zw == who) = false := by simpa using hw
        have HSJ := Lib.hid (HS.out (fun h => hw h.1))
        clear hw
        go_wp2_with fail
        go_roundw
        case rel => exact ⟨j + 1, by go_num, by omega, (by first | exact trivial | rfl), HSJ⟩
        case measure => simp [intOf]; omega
    · have hlt' : ¬ (j : Int) < n := by omega
      have hjn : j = n := by omega
      have HRN : Hid (R = -1) := Lib.hid (by
        have h1 := findB_none (es := zs.map fun z => z.1) (who := who) (fun i u hu => by
          rw [List.getElem?_map] at hu
          cases hq : zs[i]? with
          | none => rw [hq] at hu; cases hu
          | some z' => rw [hq] at hu; cases hu; exact HN.out i z' (by have := (List.getElem?_eq_some_iff.1 hq).1; have := HL.out; omega) hq)
        rw [← HR.out]; unfold placeB; rw [h1])
      go_wp2_with fail
      go_ret
      exact ⟨by rw [HRN.out]; rfl, rfl⟩
end Go.Proofs.Ytaonfacbmolklaa

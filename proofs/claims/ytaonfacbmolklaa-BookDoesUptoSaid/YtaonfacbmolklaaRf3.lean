/- The reference's book: Flags. Conditions: sizes are small. -/
import Derived.Test.YtaonfacbmolklaaRf2
namespace Go.Proofs.Ytaonfacbmolklaa
open Go.RowKit
set_option linter.unusedSimpArgs false
set_option linter.unusedVariables false

theorem IsRef.below {u u' : World} {B P : Nat} {last : Int} {S : Nat → Prop} {lv : Value} {zs : List Z} (h : IsRef u B P last S lv zs) (hb : Below u.heap.size u u') : IsRef u' B P last S lv zs :=
  h.same (fun k _ hk => hb.block k hk) (fun _ h => h) h.base
/-- All rows of the reference's book are small. -/
def SmallZ (zs : List Z) : Prop := zs.length ≤ 1000000 ∧ ∀ z ∈ zs, z.1.reads.length ≤ 1099511627776 ∧ z.1.touches.length ≤ 1099511627776
set_option maxRecDepth 100000 in
set_option maxHeartbeats 4000000 in
theorem rflags_any (w : World) (B P : Nat) (last who : Int) (S : Nat → Prop) (lv : Value) (zs : List Z) (h : IsRef w B P last S lv zs) (hsm : SmallZ zs) :
    Calls Try.prog 19 #[.pointer (some ⟨P, 0, none⟩), .int .i64 who] w fun e w' => e = .returned (.tuple #[.bool (flagsB (zs.map fun z => z.1) who).1, .bool (flagsB (zs.map fun z => z.1) who).2]) ∧ Below w.heap.size w w' := by
  obtain ⟨a, c, rfl⟩ := own_form h.row
  have HF := Lib.hid (rfind_any w B P last who S _ zs h hsm.1)
  have hPl := h.blk.lt
  have c0 : ∀ u : Ext w.heap.size w, u.w.cell? ⟨P, 0, none⟩ = some (.slice a zs.length c) := fun u => u.cell hPl (h.blk.cell rfl)
  have HBE : Hid (∀ (u : Ext w.heap.size w) (j k : Nat) (x z : Z), zs[j]? = some x → zs[k]? = some z → Calls Try.prog 35 #[.pointer (some ⟨P, 0, none⟩), .int .i64 j, .int .i64 k] u.w fun e w' => e = .returned (.bool (besideB (zs.map fun z => z.1) j k)) ∧ ∃ u' : Ext w.heap.size w, w' = u'.w) := Lib.hid (fun u j k x z hx hz => ext_call u (Nat.le_refl _) (rbeside_any u.w B P last S _ zs j k x z (h.below u.below) hx hz hsm.1))
  have HAH : Hid (∀ (u : Ext w.heap.size w) (j k : Nat) (x z : Z), zs[j]? = some x → zs[k]? = some z → Calls Try.prog 36 #[.pointer (some ⟨P, 0, none⟩), .int .i64 j, .int .i64 k] u.w fun e w' => e = .returned (.bool (aheadB (zs.map fun z => z.1) j k)) ∧ ∃ u' : Ext w.heap.size w, w' = u'.w) := Lib.hid (fun u j k x z hx hz => ext_call u (Nat.le_refl _) (rahead_any u.w B P last S _ zs j k x z (h.below u.below) hx hz hsm.1 (hsm.2 x (List.mem_of_getElem? hx)).1 (hsm.2 z (List.mem_of_getElem? hz)).2))
  obtain ⟨es, hes⟩ : ∃ es, (zs.map fun z => z.1) = es := ⟨_, rfl⟩
  rw [hes] at HF HBE HAH ⊢
  have hel : es.length = zs.length := by rw [← hes, List.length_map]
  have HFL : Hid (flagsB es who = match findB es who with | none => (false, false) | some k => (inB es k, outB es k)) := Lib.hid rfl
  have HPL : Hid (placeB es who = match findB es who with | none => -1 | some k => (k : Int)) := Lib.hid rfl
  obtain ⟨F, hFF⟩ : ∃ F, flagsB es who = F := ⟨_, rfl⟩
  rw [hFF] at HFL ⊢
  have hn := hsm.1
  obtain ⟨n, hl⟩ : ∃ n, zs.length = n := ⟨_, rfl⟩
  rw [hl] at c0 hn hel
  have HL := Lib.hid hl
  have HEL := Lib.hid hel
  obtain ⟨u0, hu0⟩ := Ext.start w.heap.size w
  have HU := Lib.hid hu0
  cases hfd : findB es who with
  | none =>
    have HR : Hid (F = (false, false)) := Lib.hid (by have h := HFL.out; rw [hfd] at h; exact h)
    have hp : placeB es who = -1 := by rw [HPL.out, hfd]
    rw [hp] at HF
    clear h hsm hes hFF hl hel hu0 hPl hfd hp
    go_enter Try.func19, Try.ntmps19
    go_wp2_with fail
    refine HF.out.mono ?_
    rintro e w1 ⟨rfl, rfl⟩
    have c00 := c0 u0
    rw [← HU.out] at c00
    go_wp2_with fail
    go_loopw [7, 8, 9] (fun iv ov jv wr => iv = .bool false ∧ ov = .bool false ∧ jv = .int .i64 0 ∧ wr = w) (fun _ _ _ _ => 0)
    case atStart => exact ⟨rfl, rfl, rfl, rfl⟩
    case round =>
      obtain ⟨rfl, rfl, rfl, rfl⟩ := hrel
      by_cases h0 : n = 0
      · subst h0
        go_wp2_with fail
        go_ret2
        exact ⟨by rw [HR.out]; rfl, Below.refl _ _⟩
      · have h0' : (0 : Int) < n := by omega
        go_wp2_with fail
        go_ret2
        exact ⟨by rw [HR.out]; rfl, Below.refl _ _⟩
  | some k =>
    have hp : placeB es who = (k : Int) := by rw [HPL.out, hfd]
    rw [hp] at HF
    have hkn : k < zs.length := by
      unfold findB at hfd
      rw [List.findIdx?_eq_some_iff_getElem] at hfd
      obtain ⟨h1, _⟩ := hfd
      omega
    obtain ⟨z, hz⟩ : ∃ z, zs[k]? = some z := get_some hkn
    have HIN : Hid (F = (sideIn es k n, sideOut es k n)) := Lib.hid (by have h := HFL.out; rw [hfd] at h; rw [h, ← hel]; rfl)
    have HSN := Lib.hid (fun j => sideIn_succ es k j)
    have HSO := Lib.hid (fun j => sideOut_succ es k j)
    rw [HIN.out]
    obtain ⟨FI, hFI⟩ : ∃ F, sideIn es k = F := ⟨_, rfl⟩
    obtain ⟨FO, hFO⟩ : ∃ F, sideOut es k = F := ⟨_, rfl⟩
    have HF0 : Hid (FI 0 = false ∧ FO 0 = false) := Lib.hid ⟨by rw [← hFI]; rfl, by rw [← hFO]; rfl⟩
    rw [hFI] at HSN ⊢
    rw [hFO] at HSO ⊢
    have HZ := Lib.hid hz
    have hk0 : (0 : Int) ≤ (k : Int) := by omega
    clear h hsm hes hFF hl hel hu0 hPl hfd hp hkn hz hFI hFO HIN HFL
    go_enter Try.func19, Try.ntmps19
    go_wp2_with fail
    refine HF.out.mono ?_
    rintro e w1 ⟨rfl, rfl⟩
    rw [HU.out]
    go_wp2_with fail
    go_loopw [7, 8, 9] (fun iv ov jv wr => ∃ (j : Nat) (u : Ext w.heap.size w), jv = .int .i64 j ∧ iv = .bool (FI j) ∧ ov = .bool (FO j) ∧ j ≤ n ∧ wr = u.w) (fun _ _ jv _ => n - (intOf jv).toNat)
    case atStart => exact ⟨0, u0, rfl, by rw [HF0.out.1], by rw [HF0.out.2], Nat.zero_le _, rfl⟩
    case round =>
      obtain ⟨j, u, rfl, rfl, rfl, hj, rfl⟩ := hrel
      by_cases hlt : j < n
      · have hlt' : (j : Int) < n := by omega
        have hj0 : (0 : Int) ≤ (j : Int) := by omega
        obtain ⟨x, hx⟩ : ∃ x, zs[j]? = some x := get_some (by have := HL.out; omega)
        have CB := Lib.hid (fun u => HBE.out u j k x z hx HZ.out)
        have CA := Lib.hid (fun u => HAH.out u j k x z hx HZ.out)
        have CK := Lib.hid (fun u => HAH.out u k j z x HZ.out hx)
        have hsn := HSN.out j
        have hso := HSO.out j
        generalize besideB es j k = bb at *
        generalize aheadB es j k = aa at *
        generalize aheadB es k j = kk at *
        clear hx
        obtain ⟨fi, hfi⟩ : ∃ b, FI j = b := ⟨_, rfl⟩
        obtain ⟨fo, hfo⟩ : ∃ b, FO j = b := ⟨_, rfl⟩
        rw [hfi] at hsn
        rw [hfo] at hso
        rw [hfi, hfo]
        have HSNJ := Lib.hid hsn
        have HSOJ := Lib.hid hso
        clear hsn hso hfi hfo
        cases bb with
        | false =>
          go_wp2_with fail
          refine (CB.out u).mono ?_
          rintro e' w' ⟨rfl, u1, rfl⟩
          go_wp2_with fail
          go_roundw
          case rel => exact ⟨j + 1, u1, by go_num, by rw [HSNJ.out]; simp, by rw [HSOJ.out]; simp, by omega, rfl⟩
          case measure => simp [intOf]; omega
        | true =>
          cases fi <;> cases fo
          · go_wp2_with fail
            refine (CB.out u).mono ?_
            rintro e' w' ⟨rfl, u1, rfl⟩
            go_wp2_with fail
            refine (CA.out u1).mono ?_
            rintro e' w' ⟨rfl, u2, rfl⟩
            go_wp2_with fail
            refine (CK.out u2).mono ?_
            rintro e' w' ⟨rfl, u3, rfl⟩
            go_wp2_with fail
            go_roundw
            case rel => exact ⟨j + 1, u3, by go_num, by rw [HSNJ.out]; simp, by rw [HSOJ.out]; simp, by omega, rfl⟩
            case measure => simp [intOf]; omega
          · go_wp2_with fail
            refine (CB.out u).mono ?_
            rintro e' w' ⟨rfl, u1, rfl⟩
            go_wp2_with fail
            refine (CA.out u1).mono ?_
            rintro e' w' ⟨rfl, u2, rfl⟩
            go_wp2_with fail
            go_roundw
            case rel => exact ⟨j + 1, u2, by go_num, by rw [HSNJ.out]; simp, by rw [HSOJ.out]; simp, by omega, rfl⟩
            case measure => simp [intOf]; omega
          · go_wp2_with fail
            refine (CB.out u).mono ?_
            rintro e' w' ⟨rfl, u1, rfl⟩
            go_wp2_with fail
            refine (CK.out u1).mono ?_
            rintro e' w' ⟨rfl, u2, rfl⟩
            go_wp2_with fail
            go_roundw
            case rel => exact ⟨j + 1, u2, by go_num, by rw [HSNJ.out]; simp, by rw [HSOJ.out]; simp, by omega, rfl⟩
            case measure => simp [intOf]; omega
          · go_wp2_with fail
            refine (CB.out u).mono ?_
            rintro e' w' ⟨rfl, u1, rfl⟩
            go_wp2_with fail
            go_roundw
            case rel => exact ⟨j + 1, u1, by go_num, by rw [HSNJ.out]; simp, by rw [HSOJ.out]; simp, by omega, rfl⟩
            case measure => simp [intOf]; omega
      · have hlt' : ¬ (j : Int) < n := by omega
        have hjn : j = n := by omega
        subst hjn
        go_wp2_with fail
        go_ret2
        exact ⟨by rfl, u.below⟩
end Go.Proofs.Ytaonfacbmolklaa

/- BookAlone. Conditions: the acts' rows are small. -/
import Derived.Test.YtaonfacbmolklaaOps
namespace Go.Proofs.Ytaonfacbmolklaa
open Go.RowKit
set_option linter.unusedSimpArgs false
set_option linter.unusedVariables false

theorem one_find (e : E) (who : Int) (hw : e.who = who) (h0 : e.end_ = 0) : findB [e] who = some 0 := by
  unfold findB
  rw [List.findIdx?_cons, decide_eq_true ⟨hw, h0⟩]
  rfl
theorem one_in (e : E) : inB [e] 0 = false ∧ outB [e] 0 = false ∧ (∀ i, conB [e] 0 i = false) := by
  have h : ∀ i, besideB [e] i 0 = false := fun i => by
    unfold besideB
    cases i with
    | zero => simp
    | succ i => simp
  refine ⟨?_, ?_, fun i => ?_⟩
  · unfold inB; simp [h]
  · unfold outB; simp [h]
  · unfold conB; simp [h]
theorem one_open (who t : Int) (hw : 1 ≤ who) (ht : 0 ≤ t) : openB ⟨[], t⟩ who t = (0, ⟨[⟨who, t, 0, [], [], false⟩], t⟩) := by
  unfold openB
  rw [if_neg (by simp only []; omega), if_neg (by simp)]
  rfl
theorem one_read (who t : Int) (r m : List ByteArray) (l : List ByteArray) : readB ⟨[⟨who, t, 0, r, m, false⟩], t⟩ who l = (0, ⟨[⟨who, t, 0, addS r l, m, false⟩], t⟩) := by
  unfold readB
  rw [one_find _ who rfl rfl]
  rfl
theorem one_touch (who t : Int) (r m : List ByteArray) (l : List ByteArray) : touchB ⟨[⟨who, t, 0, r, m, false⟩], t⟩ who l = (0, ⟨[⟨who, t, 0, r, addS m l, false⟩], t⟩) := by
  unfold touchB
  rw [one_find _ who rfl rfl]
  rfl
theorem one_flags (who t : Int) (r m : List ByteArray) : flagsB [⟨who, t, 0, r, m, false⟩] who = (false, false) := by
  unfold flagsB
  rw [one_find _ who rfl rfl]
  have h := one_in ⟨who, t, 0, r, m, false⟩
  show (inB _ 0, outB _ 0) = _
  rw [h.1, h.2.1]
theorem one_drop (who t : Int) (r m : List ByteArray) : dropB ⟨[⟨who, t, 0, r, m, false⟩], t⟩ who = (0, ⟨[], t⟩) := by
  unfold dropB
  rw [one_find _ who rfl rfl]
  rfl
theorem one_close (who t : Int) (r m : List ByteArray) (ht : 0 ≤ t) : closeB ⟨[⟨who, t, 0, r, m, false⟩], t⟩ who (t + 1) = (0, ⟨[], t + 1⟩) := by
  have h := one_in ⟨who, t, 0, r, m, false⟩
  unfold closeB
  rw [one_find _ who rfl rfl]
  show (if t + 1 ≤ t then _ else _) = _
  rw [if_neg (by omega)]
  have hb : badB [⟨who, t, 0, r, m, false⟩] 0 = false := by unfold badB; simp [h.2.2]
  rw [hb]
  have h0 : ¬ t + 1 = 0 := by omega
  show ((0 : Int), (⟨forgetB _, t + 1⟩ : Bk)) = _
  congr 2
  simp [forgetB, keepB, h0]
set_option maxRecDepth 100000 in
set_option maxHeartbeats 4000000 in
theorem bookAlone_any (a0 : Option Addr) (cap0 : Nat) (os : List Op) (W : World) (hrow : Cells W.heap.size W a0 (os.flatMap Op.cells)) (hok : ∀ o ∈ os, o.ok W) (hsm : (os.map fun o => o.l.length + 1).sum ≤ 1048576) :
    Calls Try.prog 5 #[.slice a0 os.length cap0] W fun e w' => e = .returned (.bool true) ∧ Below W.heap.size W w' := by
  have HROW := Lib.hid hrow
  have HOK := Lib.hid hok
  have hlen : ∀ o ∈ os, o.l.length ≤ 1048576 := fun o ho => by
    obtain ⟨i, hi⟩ := List.mem_iff_getElem?.1 ho
    have := sum_get (fun o : Op => o.l.length + 1) hi
    have h2 : o.l.length + 1 ≤ (os.map fun o => o.l.length + 1).sum := this
    omega
  have HLN := Lib.hid hlen
  have hnl : os.length ≤ 1048576 := by
    have h1 : os.length ≤ (os.map fun o => o.l.length + 1).sum := by
      clear hrow HROW hok HOK hsm hlen HLN
      induction os with
      | nil => simp
      | cons o os ih => simp only [List.map_cons, List.sum_cons, List.length_cons]; omega
    omega
  have HN := Lib.hid (held_new W W (Below.refl _ _))
  have HW := Lib.hid (fun u => works_any u)
  obtain ⟨n, hl⟩ : ∃ n, os.length = n := ⟨_, rfl⟩
  rw [hl] at hnl ⊢
  have HL := Lib.hid hl
  clear hrow hok hsm hlen hl
  go_enter Try.func5, Try.ntmps5
  go_wp2_with fail
  refine HN.out.mono ?_
  rintro e u0 ⟨rfl, -, -, h0⟩
  have K0 := Lib.hid h0
  clear h0
  go_wp2_with fail
  go_loopw [4] (fun jv wr => ∃ (j : Nat) (t : Int), jv = .int .i64 j ∧ j ≤ n ∧ j ≤ 100 ∧ 0 ≤ t ∧ t ≤ j ∧ Hid (Held W W.heap.size ⟨[], t⟩ wr)) (fun jv _ => n - (intOf jv).toNat)
  case atStart => exact ⟨0, 0, rfl, Nat.zero_le _, Nat.zero_le _, Int.le_refl 0, Int.le_refl 0, K0⟩
  case round =>
    obtain ⟨j, t, rfl, hj, hj1, ht0, htj, HK⟩ := hrel
    have hj0 : (0 : Int) ≤ (j : Int) := by omega
    by_cases hlt : j < n
    · have hlt' : (j : Int) < n := by omega
      by_cases hlh : j < 100
      · have hlh' : (j : Int) < 100 := by omega
        obtain ⟨o, ho⟩ : ∃ o, os[j]? = some o := get_some (by have := HL.out; omega)
        obtain ⟨b, off, rfl, hb, hc⟩ := Cells.elem (size := 4) HROW.out (fun _ _ => rfl) (by omega) ho
        have hbo := HOK.out o (List.mem_of_getElem? ho)
        have hll := HLN.out o (List.mem_of_getElem? ho)
        have hc3 : ∀ u, Below W.heap.size W u → u.cell? ⟨b, off + j * 4 + 3, none⟩ = some (.slice o.a o.l.length o.c) := fun u hu => by
          rw [hu.cell hb, show off + j * 4 + 3 = off + (j * 4 + 3) from by omega]; exact hc 3 _ rfl
        have hc0 : ∀ u, Below W.heap.size W u → u.cell? ⟨b, off + j * 4, none⟩ = some (.int .i64 o.kind) := fun u hu => by
          rw [hu.cell hb, show off + j * 4 = off + (j * 4 + 0) from by omega]; exact hc 0 _ rfl
        have HC3 := Lib.hid hc3
        have HC0 := Lib.hid hc0
        obtain ⟨who, hwho⟩ : ∃ x : Int, (j : Int) + 1 = x := ⟨_, rfl⟩
        have hw1 : 1 ≤ who := by omega
        have O0 : OkBk 0 ⟨[], t⟩ := ⟨Nat.le_refl _, by simp, by simp, by simp, by simp, ht0⟩
        have O1 := O0.open_ who t
        rw [one_open who t hw1 ht0] at O1
        have O2 := O1.read who o.l hll
        rw [one_read] at O2
        have O3 := O2.touch who o.l hll
        rw [one_touch] at O3
        have HLA := Lib.hid (fun u (h : Held W W.heap.size ⟨[], t⟩ u) => held_last h)
        have H1 := Lib.hid (fun u (h : Held W W.heap.size ⟨[], t⟩ u) => by have h := held_open who t h O0 (by omega); rw [one_open who t hw1 ht0] at h; exact h)
        have H2 := Lib.hid (fun u h => by have h := held_read (W := W) (u := u) (P := W.heap.size) who o.c h O1 (by omega) hbo.row hll; rw [one_read] at h; exact h)
        have H3 := Lib.hid (fun u h => by have h := held_touch (W := W) (u := u) (P := W.heap.size) who o.c h O2 (by omega) hbo.row hll; rw [one_touch] at h; exact h)
        have H4 := Lib.hid (fun u h => by have h := held_flags (W := W) (u := u) (P := W.heap.size) who h O3 (by omega); rw [one_flags] at h; exact h)
        have H5 := Lib.hid (fun u h => by have h := held_drop (W := W) (u := u) (P := W.heap.size) who h O3 (by omega); rw [one_drop] at h; exact h)
        have H6 := Lib.hid (fun u h => by have h := held_close (W := W) (u := u) (P := W.heap.size) who (t + 1) h O3 (by omega); rw [one_close _ _ _ _ ht0] at h; exact h)
        have HL3 := Lib.hid (fun u h => held_last (W := W) (u := u) (P := W.heap.size) (bk := ⟨[⟨who, t, 0, addS [] o.l, addS [] o.l, false⟩], t⟩) h)
        have HS := Lib.hid (fun u s h => held_size (W := W) (u := u) (P := W.heap.size) (bk := ⟨[], s⟩) h)
        generalize addS [] o.l = ks at *
        generalize o.l.length = ln at *
        clear ho hb hc hbo hll hc3 hc0 O0 O1 O2 O3
        go_wp2_with fail
        refine (HLA.out _ HK.out).mono ?_
        rintro e u1 ⟨rfl, rfl⟩
        go_wp2_with fail
        refine (H1.out _ HK.out).mono ?_
        rintro e u2 ⟨rfl, h2⟩
        have K2 := Lib.hid h2
        have y2 := HC3.out _ h2.2
        clear h2
        go_wp2_with fail
        refine (H2.out _ K2.out).mono ?_
        rintro e u3 ⟨rfl, h3⟩
        have K3 := Lib.hid h3
        have y3 := HC3.out _ h3.2
        clear h3 y2
        go_wp2_with fail
        refine (H3.out _ K3.out).mono ?_
        rintro e u4 ⟨rfl, h4⟩
        have K4 := Lib.hid h4
        clear h4 y3
        go_wp2_with fail
        refine (H4.out _ K4.out).mono ?_
        rintro e u5 ⟨rfl, h5⟩
        have h5' := K4.out.below h5
        have K5 := Lib.hid h5'
        have y5 := HC0.out _ h5'.2
        clear h5 h5'
        by_cases hd : o.kind = 4
        · rw [hd] at y5
          go_wp2_with fail
          refine (H5.out _ K5.out).mono ?_
          rintro e u6 ⟨rfl, h6⟩
          have K6 := Lib.hid h6
          clear h6 y5
          go_wp2_with fail
          refine (HS.out _ t K6.out).mono ?_
          rintro e u9 ⟨rfl, rfl⟩
          go_wp2_with fail
          go_roundw
          case rel => exact ⟨j + 1, t, by go_num, by omega, by omega, by omega, by omega, K6⟩
          case measure => simp [intOf]; omega
        · have hd' : (o.kind == 4) = false := by simpa using hd
          generalize o.kind = ok at *
          clear hd
          go_wp2_with fail
          refine (HL3.out _ K5.out).mono ?_
          rintro e u5' ⟨rfl, rfl⟩
          go_wp2_with fail
          refine (H6.out _ K5.out).mono ?_
          rintro e u6 ⟨rfl, h6⟩
          have K6 := Lib.hid h6
          clear h6 y5
          go_wp2_with fail
          refine (HS.out _ (t + 1) K6.out).mono ?_
          rintro e u9 ⟨rfl, rfl⟩
          go_wp2_with fail
          go_roundw
          case rel => exact ⟨j + 1, (t + 1), by go_num, by omega, by omega, by omega, by omega, K6⟩
          case measure => simp [intOf]; omega
      · have hlh' : ¬ (j : Int) < 100 := by omega
        go_wp2_with fail
        refine (HW.out _).mono ?_
        rintro e u9 ⟨rfl, h9⟩
        have H9 := Lib.hid (HK.out.2.trans (h9.mono HK.out.2.size))
        clear h9
        go_wp2_with fail
        go_ret
        exact ⟨by rfl, H9.out⟩
    · have hlt' : ¬ (j : Int) < n := by omega
      go_wp2_with fail
      refine (HW.out _).mono ?_
      rintro e u9 ⟨rfl, h9⟩
      have H9 := Lib.hid (HK.out.2.trans (h9.mono HK.out.2.size))
      clear h9
      go_wp2_with fail
      go_ret
      exact ⟨by rfl, H9.out⟩
end Go.Proofs.Ytaonfacbmolklaa

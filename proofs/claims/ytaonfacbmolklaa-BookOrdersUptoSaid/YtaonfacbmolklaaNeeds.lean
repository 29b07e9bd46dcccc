/- BookNeeds. Conditions: the acts' rows are small. -/
import Derived.Test.YtaonfacbmolklaaPlay
import Derived.Test.YtaonfacbmolklaaWorks
namespace Go.Proofs.Ytaonfacbmolklaa
open Go.RowKit
set_option linter.unusedSimpArgs false
set_option linter.unusedVariables false

/-- Two books of the program in one world, apart. -/
def Pair (W : World) (P1 P2 : Nat) (b1 b2 : Bk) (u : World) : Prop :=
  ∃ S1 S2, BookAt u W.heap.size P1 b1 S1 ∧ BookAt u W.heap.size P2 b2 S2 ∧ (∀ k, S1 k → ¬ S2 k) ∧ (∀ k, S1 k ∨ S2 k → W.heap.size ≤ k ∧ k < u.heap.size) ∧ Below W.heap.size W u
section
variable {W u w' : World} {P1 P2 j : Nat} {b1 b2 b1' : Bk}
theorem Pair.swap (h : Pair W P1 P2 b1 b2 u) : Pair W P2 P1 b2 b1 u := by
  obtain ⟨S1, S2, h1, h2, h3, h4, h5⟩ := h
  exact ⟨S2, S1, h2, h1, fun k a b => h3 k b a, fun k hk => h4 k hk.symm, h5⟩
theorem Pair.world (h : Pair W P1 P2 b1 b2 u) : Below W.heap.size W u := by
  obtain ⟨S1, S2, h1, h2, h3, h4, h5⟩ := h
  exact h5
theorem Pair.below (h : Pair W P1 P2 b1 b2 u) (hb : Below u.heap.size u w') : Pair W P1 P2 b1 b2 w' := by
  obtain ⟨S1, S2, h1, h2, h3, h4, h5⟩ := h
  exact ⟨S1, S2, h1.below hb, h2.below hb, h3, fun k hk => by have := h4 k hk; have := hb.size; omega, h5.trans (hb.mono h5.size)⟩
theorem Pair.act {f : FuncId} {args : Array Value} {v : Value} (h : Pair W P1 P2 b1 b2 u)
    (hc : ∀ S : Nat → Prop, BookAt u W.heap.size P1 b1 S → Calls Try.prog f args u fun e w' => e = .returned v ∧ Acted u W.heap.size P1 b1' S w') :
    Calls Try.prog f args u fun e w' => e = .returned v ∧ Pair W P1 P2 b1' b2 w' := by
  obtain ⟨S1, S2, h1, h2, h3, h4, h5⟩ := h
  refine (hc S1 h1).mono ?_
  rintro e w' ⟨rfl, ha, hk⟩
  have hz := hk.size
  refine ⟨rfl, grow S1 u w', S2, ha, h2.kept hk (fun k hs hs1 => h3 k hs1 hs), fun k hk1 hs => ?_, fun k hk1 => ?_, h5.trans (hk.below (fun x hx => (h4 x (.inl hx)).1) h5.size)⟩
  · rcases hk1 with hk1 | hk1
    · exact h3 k hk1 hs
    · have := (h4 k (.inr hs)).2; omega
  · have hz5 := h5.size
    rcases hk1 with (hk1 | hk1) | hk1
    · have := h4 k (.inl hk1); omega
    · omega
    · have := h4 k (.inr hk1); omega
theorem pair_play {a0 : Option Addr} {cap0 : Nat} {os : List Op} (hrow : Cells W.heap.size W a0 (os.flatMap Op.cells)) (hok : ∀ o ∈ os, o.ok W) (hln : ∀ o ∈ os, o.l.length ≤ 1048576) (hnl : os.length ≤ 1048576) (h : Pair W P1 P2 ⟨[], 0⟩ b2 u) :
    Calls Try.prog 23 #[.pointer (some ⟨P1, 0, none⟩), .slice a0 os.length cap0] u fun e w' => ∃ dv, e = .returned dv ∧ Pair W P1 P2 (playS os 120).bk b2 w' := by
  obtain ⟨S1, S2, h1, h2, h3, h4, h5⟩ := h
  refine (play_any W u P1 S1 a0 cap0 os hrow hok hln hnl h5 h1 (fun k hk => h4 k (.inl hk))).mono ?_
  rintro e w' ⟨dv, ps, n, rfl, T, N, vs, tag, g, zs, q1, q2, q3, q4, q5, q6, q7, q8, q9⟩
  have hz := q7.size
  refine ⟨dv, rfl, T, S2, q1, h2.kept q7 (fun k hs hs1 => h3 k hs1 hs), fun k hk1 hs => ?_, fun k hk1 => ?_, h5.trans (q7.below (fun x hx => (h4 x (.inl hx)).1) h5.size)⟩
  · rcases (q4 k hk1).2.2.2.2 with h | h
    · exact h3 k h hs
    · have := (h4 k (.inr hs)).2; omega
  · rcases hk1 with hk1 | hk1
    · have := q4 k hk1; exact ⟨this.2.1, this.2.2.1⟩
    · have := h4 k (.inr hk1); omega
theorem pair_flags (who : Int) (h : Pair W P1 P2 b1 b2 u) (ho : OkBk j b1) (hj : j ≤ 1000) : Calls Try.prog 18 #[.pointer (some ⟨P1, 0, none⟩), .int .i64 who] u fun e w' => e = .returned (.tuple #[.bool (flagsB b1.es who).1, .bool (flagsB b1.es who).2]) ∧ Pair W P1 P2 b1 b2 w' := by
  obtain ⟨S1, S2, ⟨tag, lv, rs, hI, _⟩, _⟩ := id h
  refine (flags_any u W.heap.size P1 b1 tag lv rs who hI (ho.small hj)).mono ?_
  rintro e w' ⟨rfl, hb⟩
  exact ⟨rfl, h.below hb⟩
theorem pair_last (h : Pair W P1 P2 b1 b2 u) : Calls Try.prog 21 #[.pointer (some ⟨P1, 0, none⟩)] u fun e w' => e = .returned (.int .i64 b1.last) ∧ u = w' := by
  obtain ⟨S1, S2, ⟨tag, lv, rs, hI, _⟩, _⟩ := id h
  exact last_any u W.heap.size P1 b1 tag lv rs hI
theorem pair_size (h : Pair W P1 P2 b1 b2 u) : Calls Try.prog 20 #[.pointer (some ⟨P1, 0, none⟩)] u fun e w' => e = .returned (.int .i64 b1.es.length) ∧ u = w' := by
  obtain ⟨S1, S2, ⟨tag, lv, rs, hI, _⟩, _⟩ := id h
  exact size_any u W.heap.size P1 b1 tag lv rs hI
theorem pair_close (who end_ : Int) (h : Pair W P1 P2 b1 b2 u) (ho : OkBk j b1) (hj : j ≤ 1000) : Calls Try.prog 14 #[.pointer (some ⟨P1, 0, none⟩), .int .i64 who, .int .i64 end_] u fun e w' => e = .returned (.int .i64 (closeB b1 who end_).1) ∧ Pair W P1 P2 (closeB b1 who end_).2 b2 w' :=
  h.act fun S h1 => (close_any u W.heap.size P1 b1 S who end_ h1 (by have := ho.len; omega) (ho.small hj) ho.out).mono fun e w' h => h
theorem pair_drop (who : Int) (h : Pair W P1 P2 b1 b2 u) (ho : OkBk j b1) (hj : j ≤ 1000) : Calls Try.prog 16 #[.pointer (some ⟨P1, 0, none⟩), .int .i64 who] u fun e w' => e = .returned (.int .i64 (dropB b1 who).1) ∧ Pair W P1 P2 (dropB b1 who).2 b2 w' :=
  h.act fun S h1 => (drop_any u W.heap.size P1 b1 S who h1 (by have := ho.len; omega)).mono fun e w' h => h
theorem pair_start {u1 u2 : World} (hb : Below W.heap.size W u1) (h1 : BookAt u1 W.heap.size W.heap.size ⟨[], 0⟩ (fun k => k = W.heap.size)) (hz : u1.heap.size = W.heap.size + 1) (hb2 : Below u1.heap.size u1 u2) (hz2 : u2.heap.size = u1.heap.size + 1) (h2 : BookAt u2 W.heap.size u1.heap.size ⟨[], 0⟩ (fun k => k = u1.heap.size)) : Pair W W.heap.size u1.heap.size ⟨[], 0⟩ ⟨[], 0⟩ u2 :=
  ⟨fun k => k = W.heap.size, fun k => k = u1.heap.size, h1.below hb2, h2, fun k a b => by omega, fun k hk => by omega, hb.trans (hb2.mono hb.size)⟩
end
/-- The plain law. -/
theorem needs_law (bk : Bk) (who : Int) :
    (closeB bk who (bk.last + 1)).1 = 0 ∨ (closeB bk who (bk.last + 1)).1 = 23 ∨ ((closeB bk who (bk.last + 1)).1 = 7 ∧ (flagsB bk.es who).2 = true ∧ (dropB bk who).1 = 0 ∧ (closeB bk who (bk.last + 1)).2 = (dropB bk who).2) := by
  unfold closeB
  cases hf : findB bk.es who with
  | none => exact .inr (.inl rfl)
  | some k =>
    show (if bk.last + 1 ≤ bk.last then _ else _ : Int × Bk).1 = 0 ∨ (if bk.last + 1 ≤ bk.last then _ else _ : Int × Bk).1 = 23 ∨ ((if bk.last + 1 ≤ bk.last then _ else _ : Int × Bk).1 = 7 ∧ _ ∧ _ ∧ (if bk.last + 1 ≤ bk.last then _ else _ : Int × Bk).2 = _)
    rw [if_neg (by omega)]
    by_cases hb : badB bk.es k = true
    · rw [if_pos hb]
      refine .inr (.inr ⟨rfl, ?_, ?_, rfl⟩)
      · unfold flagsB
        rw [hf]
        show outB bk.es k = true
        unfold badB at hb
        unfold outB
        rw [List.any_eq_true] at hb ⊢
        obtain ⟨i, hi, h⟩ := hb
        refine ⟨i, hi, ?_⟩
        rw [Bool.and_eq_true] at h
        have h1 := h.1
        unfold conB at h1
        rw [Bool.and_eq_true, Bool.and_eq_true] at h1
        rw [Bool.and_eq_true]
        exact ⟨h1.1.2, h1.2⟩
      · unfold dropB; rw [hf]
    · rw [if_neg hb]
      exact .inl rfl
theorem playS_ok (os : List Op) (hl : ∀ o ∈ os, o.l.length ≤ 1048576) : PInv 120 (playS os 120) := by
  have h1 := PInv.play os hl (min os.length 120) (Nat.min_le_left _ _)
  have h2 : playS os (min os.length 120) = playS os 120 := by
    unfold playS
    rcases Nat.le_total os.length 120 with h | h
    · rw [Nat.min_eq_left h, List.take_of_length_le (Nat.le_refl _), List.take_of_length_le h]
    · rw [Nat.min_eq_right h]
  rw [h2] at h1
  have hm : min os.length 120 ≤ 120 := Nat.min_le_right _ _
  have hK : min os.length 120 * 1048576 ≤ 120 * 1048576 := Nat.mul_le_mul_right _ hm
  exact ⟨h1.ok.mono hm, by have := h1.le; omega, by have := h1.dn; omega, fun w d hd => ⟨Nat.le_trans (h1.lim w d hd).1 hK, Nat.le_trans (h1.lim w d hd).2 hK⟩, fun d hd => ⟨Nat.le_trans (h1.dlim d hd).1 hK, Nat.le_trans (h1.dlim d hd).2 hK⟩⟩
set_option maxRecDepth 100000 in
set_option maxHeartbeats 16000000 in
theorem bookNeeds_any (a0 : Option Addr) (cap0 : Nat) (os : List Op) (who : Int) (W : World) (hrow : Cells W.heap.size W a0 (os.flatMap Op.cells)) (hok : ∀ o ∈ os, o.ok W) (hsm : (os.map fun o => o.l.length + 1).sum ≤ 1048576) :
    Calls Try.prog 6 #[.slice a0 os.length cap0, .int .i64 who] W fun e w' => e = .returned (.bool true) ∧ Below W.heap.size W w' := by
  obtain ⟨hln, hnl⟩ := ops_ok hsm
  have HPL := Lib.hid (fun (P1 P2 : Nat) (b2 : Bk) (u : World) (h : Pair W P1 P2 ⟨[], 0⟩ b2 u) => pair_play (cap0 := cap0) hrow hok hln hnl h)
  have HOK := Lib.hid (playS_ok os hln).ok
  have hbt := (playS_ok os hln).le
  have hbt0 := (playS_ok os hln).ok.last
  have HROW := Lib.hid hrow
  have HN1 := Lib.hid (new_any W W.heap.size (Nat.le_refl _))
  have HN2 := Lib.hid (fun u (h : W.heap.size ≤ u.heap.size) => new_any u W.heap.size h)
  have HW := Lib.hid (fun u => works_any u)
  have HLAW := Lib.hid (needs_law (playS os 120).bk who)
  obtain ⟨n, hl⟩ : ∃ n, os.length = n := ⟨_, rfl⟩
  rw [hl] at hnl HPL ⊢
  have HL := Lib.hid hl
  generalize (playS os 120).bk = bk at *
  clear hrow hok hsm hln hl
  go_enter Try.func6, Try.ntmps6
  go_wp2_with fail
  refine HN1.out.mono ?_
  rintro e u1 ⟨rfl, hb1, hz1, hba1⟩
  go_wp2_with fail
  refine (HN2.out u1 hb1.size).mono ?_
  rintro e u2 ⟨rfl, hb2, hz2, hba2⟩
  have K := Lib.hid (pair_start hb1 hba1 hz1 hb2 hz2 hba2)
  obtain ⟨P2, hP2⟩ : ∃ P, u1.heap.size = P := ⟨_, rfl⟩
  obtain ⟨P1, hP1⟩ : ∃ P, W.heap.size = P := ⟨_, rfl⟩
  have HP1 := Lib.hid hP1
  have HP2 := Lib.hid hP2
  have K1 : Hid (Pair W P1 P2 ⟨[], 0⟩ ⟨[], 0⟩ u2) := Lib.hid (by rw [← hP1, ← hP2]; exact K.out)
  rw [hP1, hP2]
  clear hb1 hz1 hba1 hb2 hz2 hba2 K hP1 hP2
  go_wp2_with fail
  refine (HPL.out P1 P2 _ u2 K1.out).mono ?_
  rintro e u3 ⟨dv1, rfl, h3⟩
  have K3 := Lib.hid h3
  clear h3 K1
  go_wp2_with fail
  refine (HPL.out P2 P1 _ u3 K3.out.swap).mono ?_
  rintro e u4 ⟨dv2, rfl, h4⟩
  have K4 := Lib.hid h4.swap
  clear h4 K3
  go_wp2_with fail
  refine (pair_flags who K4.out HOK.out (by omega)).mono ?_
  rintro e u5 ⟨rfl, h5⟩
  have K5 := Lib.hid h5
  clear h5 K4
  go_wp2_with fail
  refine (pair_last K5.out).mono ?_
  rintro e u6 ⟨rfl, rfl⟩
  have HCL := Lib.hid (pair_close who (bk.last + 1) K5.out HOK.out (by omega))
  have HOKc := Lib.hid (HOK.out.close who (bk.last + 1))
  have HOKd := Lib.hid (HOK.out.drop who)
  generalize (closeB bk who (bk.last + 1)).2 = b' at *
  generalize (closeB bk who (bk.last + 1)).1 = ov at *
  generalize (flagsB bk.es who).2 = fo at *
  generalize (flagsB bk.es who).1 = fi at *
  obtain ⟨bt, hbteq⟩ : ∃ t, bk.last = t := ⟨_, rfl⟩
  rw [hbteq] at hbt hbt0 HCL ⊢
  clear hbteq
  go_wp2_with fail
  refine HCL.out.mono ?_
  rintro e u7 ⟨rfl, h7⟩
  have K7 := Lib.hid h7
  clear h7 K5 HCL
  have hlaw := HLAW.out
  clear HLAW
  by_cases ho : ov = 0
  · clear hlaw
    subst ho
    go_wp2_with fail
    refine (HW.out _).mono ?_
    rintro e u9 ⟨rfl, h9⟩
    have H9 := Lib.hid (K7.out.below h9).world
    clear h9
    go_wp2_with fail
    go_ret
    exact ⟨by rfl, H9.out⟩
  by_cases ho2 : ov = 23
  · clear hlaw
    subst ho2
    go_wp2_with fail
    refine (HW.out _).mono ?_
    rintro e u9 ⟨rfl, h9⟩
    have H9 := Lib.hid (K7.out.below h9).world
    clear h9
    go_wp2_with fail
    go_ret
    exact ⟨by rfl, H9.out⟩
  obtain ⟨rfl, rfl, hd1, rfl⟩ : ov = 7 ∧ fo = true ∧ (dropB bk who).1 = 0 ∧ b' = (dropB bk who).2 := by
    rcases hlaw with h | h | h
    · exact absurd h ho
    · exact absurd h ho2
    · exact h
  clear hlaw ho ho2
  have HDR := Lib.hid (pair_drop who K7.out.swap HOK.out (by omega))
  rw [hd1] at HDR
  generalize (dropB bk who).2 = b' at *
  clear hd1
  go_wp2_with fail
  refine HDR.out.mono ?_
  rintro e u8 ⟨rfl, h8⟩
  have K8 := Lib.hid h8.swap
  clear h8 K7 HDR
  go_wp2_with fail
  refine (pair_size K8.out).mono ?_
  rintro e u9 ⟨rfl, rfl⟩
  have HS2 := Lib.hid (pair_size K8.out.swap)
  have HL1 := Lib.hid (pair_last K8.out)
  have HL2 := Lib.hid (pair_last K8.out.swap)
  have HFL1 := Lib.hid (fun (w : Int) (u : World) (h : Pair W P1 P2 b' b' u) => pair_flags w h HOKd.out (by omega))
  have HFL2 := Lib.hid (fun (w : Int) (u : World) (h : Pair W P1 P2 b' b' u) => pair_flags w h.swap HOKd.out (by omega))
  obtain ⟨bl, hbl⟩ : ∃ x, b'.es.length = x := ⟨_, rfl⟩
  obtain ⟨bt2, hbt2⟩ : ∃ x, b'.last = x := ⟨_, rfl⟩
  rw [hbl] at HS2 ⊢
  rw [hbt2] at HL1 HL2
  clear hbl hbt2
  go_wp2_with fail
  refine HS2.out.mono ?_
  rintro e u9 ⟨rfl, rfl⟩
  have hf3 : ((bl : Int) != (bl : Int)) = false := by simp
  have hf4 : (bt2 != bt2) = false := by simp
  go_wp2_with fail
  refine HL1.out.mono ?_
  rintro e u9 ⟨rfl, rfl⟩
  go_wp2_with fail
  refine HL2.out.mono ?_
  rintro e u9 ⟨rfl, rfl⟩
  clear HS2 HL1 HL2
  go_wp2_with fail
  go_loopw [10] (fun jv wr => ∃ (j : Nat), jv = .int .i64 j ∧ j ≤ n ∧ j ≤ 120 ∧ Hid (Pair W P1 P2 b' b' wr)) (fun jv _ => n - (intOf jv).toNat)
  case atStart => exact ⟨0, rfl, Nat.zero_le _, Nat.zero_le _, K8⟩
  case round =>
    obtain ⟨j, rfl, hj, hj1, HT⟩ := hrel
    have hj0 : (0 : Int) ≤ (j : Int) := by omega
    by_cases hlt : j < n
    · have hlt' : (j : Int) < n := by omega
      by_cases hlh : j < 120
      · have hlh' : (j : Int) < 120 := by omega
        obtain ⟨o, ho⟩ : ∃ o, os[j]? = some o := get_some (by have := HL.out; omega)
        obtain ⟨bo, off, rfl, hb, hc⟩ := Cells.elem (size := 4) HROW.out (fun _ _ => rfl) (by omega) ho
        have z1 : wr.cell? ⟨bo, off + j * 4 + 1, none⟩ = some (.int .i64 o.who) := by rw [HT.out.world.cell hb, show off + j * 4 + 1 = off + (j * 4 + 1) from by omega]; exact hc 1 _ rfl
        obtain ⟨w0, hw0⟩ : ∃ x, o.who = x := ⟨_, rfl⟩
        rw [hw0] at z1
        have HZ : Hid (∀ u, Pair W P1 P2 b' b' u → u.cell? ⟨bo, off + j * 4 + 1, none⟩ = some (.int .i64 w0)) := Lib.hid (fun u h => by rw [h.world.cell hb, show off + j * 4 + 1 = off + (j * 4 + 1) from by omega, ← hw0]; exact hc 1 _ rfl)
        have HFa := Lib.hid (HFL1.out w0)
        have HFb := Lib.hid (HFL2.out w0)
        generalize (flagsB b'.es w0).1 = f1 at *
        generalize (flagsB b'.es w0).2 = f2 at *
        have hf1 : (f1 != f1) = false := by simp
        have hf2 : (f2 != f2) = false := by simp
        clear ho hb hc hw0
        go_wp2_with fail
        refine (HFa.out _ HT.out).mono ?_
        rintro e u5 ⟨rfl, ht5⟩
        have z2 := HZ.out _ ht5
        have HT5 := Lib.hid ht5
        clear ht5
        go_wp2_with fail
        refine (HFb.out _ HT5.out).mono ?_
        rintro e u6 ⟨rfl, ht6⟩
        have HT6 := Lib.hid ht6.swap
        clear ht6
        go_wp2_with fail
        go_roundw
        case rel => exact ⟨j + 1, by go_num, by omega, by omega, HT6⟩
        case measure => simp [intOf]; omega
      · have hlh' : ¬ (j : Int) < 120 := by omega
        go_wp2_with fail
        refine (HW.out _).mono ?_
        rintro e u9 ⟨rfl, h9⟩
        have H9 := Lib.hid (HT.out.below h9).world
        clear h9
        go_wp2_with fail
        go_ret
        exact ⟨by rfl, H9.out⟩
    · have hlt' : ¬ (j : Int) < n := by omega
      go_wp2_with fail
      refine (HW.out _).mono ?_
      rintro e u9 ⟨rfl, h9⟩
      have H9 := Lib.hid (HT.out.below h9).world
      clear h9
      go_wp2_with fail
      go_ret
      exact ⟨by rfl, H9.out⟩
end Go.Proofs.Ytaonfacbmolklaa

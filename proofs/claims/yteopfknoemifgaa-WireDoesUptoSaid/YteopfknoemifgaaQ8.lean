/- Layer 9: the walk of WireDoes. Conditions: the arguments can be read; the bytes are together at most 1048576. -/
import Derived.Test.YteopfknoemifgaaQ7
import Derived.Test.YteopfknoemifgaaApart
namespace Go.Proofs.Yteopfknoemifgaa
open Go.RowKit
set_option linter.unusedSimpArgs false
set_option linter.unusedVariables false

theorem duo_start {W w1 : World} {nb : Nat} (h : Net1 W nb [] w1) : Duo W nb w1.heap.size [] [] (fun _ => False) (w1.alloc (.cells #[.slice none 0 0] 45)) := by
  obtain ⟨S, h1, h2⟩ := h
  have hb : Below w1.heap.size w1 (w1.alloc (.cells #[.slice none 0 0] 45)) := (Below.refl _ _).alloc (Nat.le_refl _) _
  have hz := h2.size
  refine ⟨S, fun k => k = w1.heap.size, h1.of_heap hb.size fun k hk => hb.block k (h1.bd k hk).2, ⟨fun _ => 0, .slice none 0 0, [], ⟨(fun k hk => by subst hk; simp; omega), rfl, rfl, Block.new w1 [.slice none 0 0] _, World.ownsRow_nil _ _ _ _, (fun g e => by cases e), (fun i z hz => by simp at hz)⟩, rfl⟩, fun k hk e => by have := (h1.bd k hk).2; omega, h2.trans (hb.mono h2.size), fun k hk => hk.elim⟩
theorem fits_of {N : List (Option Line)} {j : Nat} (h1 : N.length ≤ j) (h2 : Small N (1048576 * j)) (hj : j ≤ 81) : Fits N := by
  have h3 : 1048576 * j ≤ 1048576 * 81 := Nat.mul_le_mul_left _ hj
  exact ⟨by omega, fun i x hx => by have := h2 i x hx; omega⟩
theorem gotN_len {N : List (Option Line)} (h : Fits N) (c : Int) : (gotN N c).length ≤ 70000000000000 := by
  unfold gotN
  cases hl : lineAt N c with
  | none => simp
  | some p => exact (h.sm _ _ (lineAt_some (i := p.1) (x := p.2) hl).1).2
theorem flight_bne (a : Nat) : ((a : Int) != (a : Int)) = false := by simp
theorem bool_bne (b : Bool) : (b != b) = false := by simp
theorem strOf_bne (l : List UInt8) : ((strOf l).toList != (strOf l).toList) = false := by simp

set_option maxRecDepth 100000 in
set_option maxHeartbeats 16000000 in
theorem does_walk (a2 : Option Addr) (cap2 : Nat) (os : List Act) (W : World) (h2 : os.length ≤ maxLen) (hsum : (os.map fun o => o.b.l.length).sum ≤ 1048576)
    (hok : ∀ o ∈ os, o.ok W) (hc2 : Cells W.heap.size W a2 (os.flatMap Act.cells)) :
    Calls Try.prog 5 #[.slice a2 os.length cap2] W fun e w' => e = .returned (.bool true) ∧ Below W.heap.size W w' := by
  unfold maxLen at h2
  have HC2 := Lib.hid hc2
  have HOK := Lib.hid hok
  have HSUM := Lib.hid hsum
  clear hc2 hok hsum
  obtain ⟨n, hn⟩ : ∃ n, os.length = n := ⟨_, rfl⟩
  have HNN := Lib.hid hn
  rw [hn] at h2 ⊢
  clear hn
  go_enter Try.func5, Try.ntmps5
  go_wp2_with fail
  refine (new_h (Below.refl _ _)).mono ?_; rintro e w1 ⟨nb, rfl, hn⟩
  have HS := Lib.hid (duo_start hn)
  clear hn
  go_wp2_with fail
  obtain ⟨rb, hrb⟩ : ∃ rb, w1.heap.size = rb := ⟨_, rfl⟩
  obtain ⟨w2, hw2⟩ : ∃ w2, w1.alloc (.cells #[.slice none 0 0] 45) = w2 := ⟨_, rfl⟩
  rw [hrb, hw2] at HS
  rw [hrb, hw2]
  clear hrb hw2
  go_loopw [5] (fun iv wr => ∃ (j : Nat) (N : List (Option Line)), iv = .int .i64 j ∧ j ≤ n ∧ j ≤ 80 ∧ Hid (N.length ≤ j ∧ Small N (1048576 * j)) ∧ Hid (Duo W nb rb N N (fun _ => False) wr)) (fun iv _ => n - (intOf iv).toNat)
  case atStart => exact ⟨0, [], rfl, Nat.zero_le _, Nat.zero_le _, Lib.hid ⟨Nat.le_refl _, fun i x hx => by simp at hx⟩, HS⟩
  case round =>
    obtain ⟨j, N, rfl, hj, hj1, HI, HD⟩ := hrel
    have hj0 : (0 : Int) ≤ (j : Int) := by omega
    by_cases hlt : j < n ∧ j < 80
    · obtain ⟨hlt, hlt2⟩ := hlt
      have hlt' : (j : Int) < n := by omega
      have hlt2' : (j : Int) < 80 := by omega
      obtain ⟨o, ho⟩ : ∃ o, os[j]? = some o := ⟨_, List.getElem?_eq_getElem (by have := HNN.out; omega)⟩
      have hok := HOK.out o (List.mem_of_getElem? ho)
      have hbl := act_bulk HSUM.out ho
      obtain ⟨b, off, rfl, hbs, c0, c1, c2, c3⟩ := act_cells HC2.out HD.out.is ho
      have HFI : Hid (Fits N) := Lib.hid (fits_of HI.out.1 HI.out.2 (by omega))
      have HI2 : Hid ((actN N o).length ≤ j + 1 ∧ Small (actN N o) (1048576 * (j + 1))) := Lib.hid (by
        have h5 := actN_length N o
        have h6 := HI.out.1
        exact ⟨by omega, (actN_small HI.out.2).mono (by omega)⟩)
      have HFI2 : Hid (Fits (actN N o)) := Lib.hid (fits_of HI2.out.1 HI2.out.2 (by omega))
      obtain ⟨kind, c, nn, ⟨ba, bcap, bl⟩⟩ := o
      obtain ⟨⟨o1, o2, o3⟩, o4, o5⟩ := hok
      simp only at c0 c1 c2 c3 hbl
      have HDO := Lib.hid (do_any kind c nn ba bcap bl HD.out HFI.out o4 (i64_of_wf o5).2 hbl (fun u hu => o1.below hu (Nat.le_refl _)) o2)
      have HCW : Hid ((Lit.int .i64 c).wf = true) := Lib.hid o4
      obtain ⟨N', hN'⟩ : ∃ N', actN N ⟨kind, c, nn, ⟨ba, bcap, bl⟩⟩ = N' := ⟨_, rfl⟩
      rw [hN'] at HDO HI2 HFI2
      have HC1 : Hid (∀ u : World, Below W.heap.size W u → u.cell? ⟨b, off + j * 4 + 1, none⟩ = some (.int .i64 c)) := Lib.hid (fun u hu => by
        obtain ⟨b', off', e1, _, _, k1, _⟩ := act_cells HC2.out hu ho
        injection e1 with e1; injection e1 with e1 e2; subst e1 e2
        exact k1)
      obtain ⟨bm, hbm⟩ : ∃ m, bl.length = m := ⟨_, rfl⟩
      rw [hbm] at HDO c3
      clear ho o1 o2 o3 o4 o5 HI hN' hbm HFI
      go_wp2_with fail
      refine HDO.out.mono ?_; rintro e w3 ⟨rfl, hd3⟩
      have HD3 := Lib.hid hd3
      have k1 := HC1.out w3 HD3.out.is
      clear hd3 c0 c1 c2 c3 HDO
      go_wp2_with fail
      refine (duo_got HD3.out HFI2.out c HCW.out).mono ?_; rintro e w4 ⟨ga, gc, rfl, hib, hd4, hb4⟩
      have HD4 := Lib.hid hd4
      have HIB := Lib.hid hib
      have HWO : Hid (∀ k, BlkOf ga k → W.heap.size ≤ k) := Lib.hid (by
        rintro k ⟨y, hy, rfl⟩
        have h1 := (hib.lt y hy).1
        have h2 := HD3.out.is.size
        omega)
      have hm63 := gotN_len HFI2.out c
      obtain ⟨gl, hgl⟩ : ∃ l, gotN N' c = l := ⟨_, rfl⟩
      obtain ⟨fl, hfl⟩ : ∃ l, flightN N' c = l := ⟨_, rfl⟩
      obtain ⟨ol, hol⟩ : ∃ l, overN N' c = l := ⟨_, rfl⟩
      have HGL := Lib.hid hgl
      have HFL := Lib.hid hfl
      have HOL := Lib.hid hol
      rw [hgl] at HIB hm63 ⊢
      obtain ⟨m, hm⟩ : ∃ m, gl.length = m := ⟨_, rfl⟩
      have HM := Lib.hid hm
      have HOI : Hid (OwnI w4 W.heap.size ga gc m) := Lib.hid (by have h1 := OwnI.of_bytes (HIB.out.mono HD3.out.is.size); rw [hm] at h1; exact h1)
      rw [hm] at hm63 ⊢
      have HV1 : Hid (∀ u : World, Below w4.heap.size w4 u → (convert 30 9 (.slice ga m gc)).run Try.prog u = .ok (.string (strOf gl)) u) := Lib.hid (fun u hu => by
        have := conv_cells u ga gc w4.heap.size gl (HIB.out.cells.below hu (Nat.le_refl _))
        rw [HM.out] at this
        exact this)
      have t1 := strOf_bne gl
      have t2 := flight_bne fl
      have t3 := bool_bne ol
      clear hd4 hib hgl hfl hol hm hb4 k1
      go_wp2_with fail
      have HD4d := Lib.hid (HD4.out.drew)
      have HV1d : Hid (∀ u : World, u = w4.drew → (convert 30 9 (.slice ga m gc)).run Try.prog u = .ok (.string (strOf gl)) u) := Lib.hid (fun u hu => by subst hu; exact HV1.out _ (Below.refl _ _).drew)
      refine wp_region_noPanic ?_
      refine wp_region_held_drew (S := fun u : World => (convert 30 9 (.slice ga m gc)).run Try.prog u = .ok (.string (strOf gl)) u) (by kernel_rfl) (HV1d.out _ rfl) (fun hHeld => ?_)
      refine wpAnyH_take (i := 0) (v := ?_) rfl (by kernel_rfl) (by kernel_rfl) (by kernel_rfl) (fun _ _ _ h => h) (Or.inl ⟨by rfl, ?_⟩) (by assumption) ?_
      rotate_left
      focus ((intro w hSw; (try dsimp only at hSw); go_simp); try with_reducible rfl)
      (try simp only [Act.put, List.getElem_toArray, List.getElem_cons_zero, List.getElem_cons_succ, List.setIfInBounds_toArray, List.set_cons_zero, List.set_cons_succ])
      refine wpAnyH_take (i := 1) (v := ?_) rfl (by kernel_rfl) (by kernel_rfl) (by kernel_rfl) (fun _ _ _ h => h) (Or.inl ⟨by rfl, ?_⟩) (by assumption) ?_
      rotate_left
      focus ((intro w hSw; (try dsimp only at hSw); go_simp); try with_reducible rfl)
      (try simp only [Act.put, List.getElem_toArray, List.getElem_cons_zero, List.getElem_cons_succ, List.setIfInBounds_toArray, List.set_cons_zero, List.set_cons_succ])
      refine wpAnyH_take (i := 2) (v := ?_) rfl (by kernel_rfl) (by kernel_rfl) (by kernel_rfl) (fun _ _ _ h => h) (Or.inl ⟨by rfl, ?_⟩) (by assumption) ?_
      rotate_left
      focus ((intro w hSw; (try dsimp only at hSw); go_simp); try with_reducible rfl)
      (try simp only [Act.put, List.getElem_toArray, List.getElem_cons_zero, List.getElem_cons_succ, List.setIfInBounds_toArray, List.set_cons_zero, List.set_cons_succ])
      refine wpAnyH_take (i := 3) (v := ?_) rfl (by kernel_rfl) (by kernel_rfl) (by kernel_rfl) (fun _ _ _ h => h) (Or.inl ⟨by rfl, ?_⟩) (by assumption) ?_
      rotate_left
      focus ((intro w hSw; (try dsimp only at hSw); go_simp); try with_reducible rfl)
      (try simp only [Act.put, List.getElem_toArray, List.getElem_cons_zero, List.getElem_cons_succ, List.setIfInBounds_toArray, List.set_cons_zero, List.set_cons_succ])
      refine wpAnyH_ready (rs := [4]) (by kernel_rfl) (by simp) ?_
      refine AllReadyH.cons rfl (fun K hK => ?_) AllReadyH.nil
      go_simp
      go_at_call 19
      refine (duo_rgot HD4d.out HFI2.out c).mono ?_; rintro e w5 ⟨ra, rc, rfl, hrc, rfl⟩
      have HRC := Lib.hid hrc
      rw [HGL.out, HM.out]
      refine hK.out _ _ (HV1d.out _ rfl) (fun hHeld => ?_)
      clear hK K
      (try simp only [Act.put, List.getElem_toArray, List.getElem_cons_zero, List.getElem_cons_succ, List.setIfInBounds_toArray, List.set_cons_zero, List.set_cons_succ])
      have HV2 : Hid (∀ u : World, u = w4.drew → (convert 30 9 (.slice ra m rc)).run Try.prog u = .ok (.string (strOf gl)) u) := Lib.hid (fun u hu => by subst hu; have h1 := HRC.out; rw [HGL.out] at h1; have := conv_cells _ ra rc _ gl h1; rw [HM.out] at this; exact this)
      refine wpAnyH_more (S' := fun u : World => ((convert 30 9 (.slice ga m gc)).run Try.prog u = .ok (.string (strOf gl)) u) ∧ (convert 30 9 (.slice ra m rc)).run Try.prog u = .ok (.string (strOf gl)) u) (fun u h => h.1) _ _ _ _ ?_
      have hHeld2 : (fun u : World => ((convert 30 9 (.slice ga m gc)).run Try.prog u = .ok (.string (strOf gl)) u) ∧ (convert 30 9 (.slice ra m rc)).run Try.prog u = .ok (.string (strOf gl)) u) _ := ⟨HV1d.out _ rfl, HV2.out _ rfl⟩
      refine wpAnyH_take (i := 5) (v := ?_) rfl (by kernel_rfl) (by kernel_rfl) (by kernel_rfl) (fun _ _ _ h => h) (Or.inl ⟨by rfl, ?_⟩) (by assumption) ?_
      rotate_left
      focus ((intro w hSw; (try dsimp only at hSw); go_simp); try with_reducible rfl)
      (try simp only [Act.put, List.getElem_toArray, List.getElem_cons_zero, List.getElem_cons_succ, List.setIfInBounds_toArray, List.set_cons_zero, List.set_cons_succ])
      refine wpAnyH_take (i := 6) (v := ?_) rfl (by kernel_rfl) (by kernel_rfl) (by kernel_rfl) (fun _ _ _ h => h) (Or.inl ⟨by rfl, ?_⟩) (by assumption) ?_
      rotate_left
      focus ((intro w hSw; (try dsimp only at hSw); go_simp); try with_reducible rfl)
      (try simp only [Act.put, List.getElem_toArray, List.getElem_cons_zero, List.getElem_cons_succ, List.setIfInBounds_toArray, List.set_cons_zero, List.set_cons_succ])
      refine wpAnyH_take (i := 7) (v := ?_) rfl (by kernel_rfl) (by kernel_rfl) (by kernel_rfl) (fun _ _ _ h => h) (Or.inl ⟨by rfl, ?_⟩) (by assumption) ?_
      rotate_left
      focus ((intro w hSw; (try dsimp only at hSw); go_simp); try with_reducible rfl)
      (try simp only [Act.put, List.getElem_toArray, List.getElem_cons_zero, List.getElem_cons_succ, List.setIfInBounds_toArray, List.set_cons_zero, List.set_cons_succ])
      refine wpAnyH_take (i := 8) (v := ?_) rfl (by kernel_rfl) (by kernel_rfl) (by kernel_rfl) (fun _ _ _ h => h) (Or.inl ⟨by rfl, ?_⟩) (by assumption) ?_
      rotate_left
      focus ((intro w hSw; (try dsimp only at hSw); go_simp); try with_reducible rfl)
      (try simp only [Act.put, List.getElem_toArray, List.getElem_cons_zero, List.getElem_cons_succ, List.setIfInBounds_toArray, List.set_cons_zero, List.set_cons_succ])
      refine wpAnyH_take (i := 9) (v := ?_) rfl (by kernel_rfl) (by kernel_rfl) (by kernel_rfl) (fun _ _ _ h => h) (Or.inl ⟨by rfl, ?_⟩) (by assumption) ?_
      rotate_left
      focus ((intro w hSw; (try dsimp only at hSw); go_simp); try with_reducible rfl)
      (try simp only [Act.put, List.getElem_toArray, List.getElem_cons_zero, List.getElem_cons_succ, List.setIfInBounds_toArray, List.set_cons_zero, List.set_cons_succ])
      refine wpAnyH_take (i := 11) (v := ?_) rfl (by kernel_rfl) (by kernel_rfl) (by kernel_rfl) (fun _ _ _ h => h) (Or.inl ⟨by rfl, ?_⟩) (by assumption) ?_
      rotate_left
      focus ((intro w hSw; (try dsimp only at hSw); go_simp); try with_reducible rfl)
      (try simp only [Act.put, List.getElem_toArray, List.getElem_cons_zero, List.getElem_cons_succ, List.setIfInBounds_toArray, List.set_cons_zero, List.set_cons_succ])
      refine wpAnyH_take (i := 12) (v := ?_) rfl (by kernel_rfl) (by kernel_rfl) (by kernel_rfl) (fun _ _ _ h => h) (Or.inl ⟨by rfl, ?_⟩) (by assumption) ?_
      rotate_left
      focus ((intro w hSw; (try dsimp only at hSw); go_simp); try with_reducible rfl)
      (try simp only [Act.put, List.getElem_toArray, List.getElem_cons_zero, List.getElem_cons_succ, List.setIfInBounds_toArray, List.set_cons_zero, List.set_cons_succ])
      refine wpAnyH_ready (rs := [10]) (by kernel_rfl) (by simp) ?_
      refine AllReadyH.cons rfl (fun K hK => ?_) AllReadyH.nil
      go_simp
      go_at_call 11
      refine (duo_flight HD4d.out c HCW.out).mono ?_; rintro e w5 ⟨rfl, rfl⟩
      rw [HFL.out]
      refine hK.out _ _ (⟨HV1d.out _ rfl, HV2.out _ rfl⟩) (fun hHeld => ?_)
      clear hK K
      (try simp only [Act.put, List.getElem_toArray, List.getElem_cons_zero, List.getElem_cons_succ, List.setIfInBounds_toArray, List.set_cons_zero, List.set_cons_succ])
      refine wpAnyH_ready (rs := [13]) (by kernel_rfl) (by simp) ?_
      refine AllReadyH.cons rfl (fun K hK => ?_) AllReadyH.nil
      go_simp
      go_at_call 20
      refine (duo_rflight HD4d.out HFI2.out c).mono ?_; rintro e w5 ⟨rfl, rfl⟩
      rw [HFL.out]
      refine hK.out _ _ (⟨HV1d.out _ rfl, HV2.out _ rfl⟩) (fun hHeld => ?_)
      clear hK K
      (try simp only [Act.put, List.getElem_toArray, List.getElem_cons_zero, List.getElem_cons_succ, List.setIfInBounds_toArray, List.set_cons_zero, List.set_cons_succ])
      refine wpAnyH_take (i := 14) (v := ?_) rfl (by kernel_rfl) (by kernel_rfl) (by kernel_rfl) (fun _ _ _ h => h) (Or.inl ⟨by rfl, ?_⟩) (by assumption) ?_
      rotate_left
      focus ((intro w hSw; (try dsimp only at hSw); go_simp); try with_reducible rfl)
      (try simp only [Act.put, List.getElem_toArray, List.getElem_cons_zero, List.getElem_cons_succ, List.setIfInBounds_toArray, List.set_cons_zero, List.set_cons_succ])
      refine wpAnyH_take (i := 15) (v := ?_) rfl (by kernel_rfl) (by kernel_rfl) (by kernel_rfl) (fun _ _ _ h => h) (Or.inl ⟨by rfl, ?_⟩) (by assumption) ?_
      rotate_left
      focus ((intro w hSw; (try dsimp only at hSw); go_simp); try with_reducible rfl)
      (try simp only [Act.put, List.getElem_toArray, List.getElem_cons_zero, List.getElem_cons_succ, List.setIfInBounds_toArray, List.set_cons_zero, List.set_cons_succ])
      refine wpAnyH_take (i := 16) (v := ?_) rfl (by kernel_rfl) (by kernel_rfl) (by kernel_rfl) (fun _ _ _ h => h) (Or.inl ⟨by rfl, ?_⟩) (by assumption) ?_
      rotate_left
      focus ((intro w hSw; (try dsimp only at hSw); go_simp); try with_reducible rfl)
      (try simp only [Act.put, List.getElem_toArray, List.getElem_cons_zero, List.getElem_cons_succ, List.setIfInBounds_toArray, List.set_cons_zero, List.set_cons_succ])
      refine wpAnyH_take (i := 17) (v := ?_) rfl (by kernel_rfl) (by kernel_rfl) (by kernel_rfl) (fun _ _ _ h => h) (Or.inl ⟨by rfl, ?_⟩) (by assumption) ?_
      rotate_left
      focus ((intro w hSw; (try dsimp only at hSw); go_simp); try with_reducible rfl)
      (try simp only [Act.put, List.getElem_toArray, List.getElem_cons_zero, List.getElem_cons_succ, List.setIfInBounds_toArray, List.set_cons_zero, List.set_cons_succ])
      refine wpAnyH_take (i := 18) (v := ?_) rfl (by kernel_rfl) (by kernel_rfl) (by kernel_rfl) (fun _ _ _ h => h) (Or.inl ⟨by rfl, ?_⟩) (by assumption) ?_
      rotate_left
      focus ((intro w hSw; (try dsimp only at hSw); go_simp); try with_reducible rfl)
      (try simp only [Act.put, List.getElem_toArray, List.getElem_cons_zero, List.getElem_cons_succ, List.setIfInBounds_toArray, List.set_cons_zero, List.set_cons_succ])
      refine wpAnyH_take (i := 20) (v := ?_) rfl (by kernel_rfl) (by kernel_rfl) (by kernel_rfl) (fun _ _ _ h => h) (Or.inl ⟨by rfl, ?_⟩) (by assumption) ?_
      rotate_left
      focus ((intro w hSw; (try dsimp only at hSw); go_simp); try with_reducible rfl)
      (try simp only [Act.put, List.getElem_toArray, List.getElem_cons_zero, List.getElem_cons_succ, List.setIfInBounds_toArray, List.set_cons_zero, List.set_cons_succ])
      refine wpAnyH_take (i := 21) (v := ?_) rfl (by kernel_rfl) (by kernel_rfl) (by kernel_rfl) (fun _ _ _ h => h) (Or.inl ⟨by rfl, ?_⟩) (by assumption) ?_
      rotate_left
      focus ((intro w hSw; (try dsimp only at hSw); go_simp); try with_reducible rfl)
      (try simp only [Act.put, List.getElem_toArray, List.getElem_cons_zero, List.getElem_cons_succ, List.setIfInBounds_toArray, List.set_cons_zero, List.set_cons_succ])
      refine wpAnyH_ready (rs := [19]) (by kernel_rfl) (by simp) ?_
      refine AllReadyH.cons rfl (fun K hK => ?_) AllReadyH.nil
      go_simp
      go_at_call 15
      refine (duo_over HD4d.out c HCW.out).mono ?_; rintro e w5 ⟨rfl, rfl⟩
      rw [HOL.out]
      refine hK.out _ _ (⟨HV1d.out _ rfl, HV2.out _ rfl⟩) (fun hHeld => ?_)
      clear hK K
      (try simp only [Act.put, List.getElem_toArray, List.getElem_cons_zero, List.getElem_cons_succ, List.setIfInBounds_toArray, List.set_cons_zero, List.set_cons_succ])
      refine wpAnyH_ready (rs := [22]) (by kernel_rfl) (by simp) ?_
      refine AllReadyH.cons rfl (fun K hK => ?_) AllReadyH.nil
      go_simp
      go_at_call 21
      refine (duo_rover HD4d.out HFI2.out c).mono ?_; rintro e w5 ⟨rfl, rfl⟩
      rw [HOL.out]
      refine hK.out _ _ (⟨HV1d.out _ rfl, HV2.out _ rfl⟩) (fun hHeld => ?_)
      clear hK K
      (try simp only [Act.put, List.getElem_toArray, List.getElem_cons_zero, List.getElem_cons_succ, List.setIfInBounds_toArray, List.set_cons_zero, List.set_cons_succ])
      refine wpAnyH_take (i := 23) (v := ?_) rfl (by kernel_rfl) (by kernel_rfl) (by kernel_rfl) (fun _ _ _ h => h) (Or.inl ⟨by rfl, ?_⟩) (by assumption) ?_
      rotate_left
      focus ((intro w hSw; (try dsimp only at hSw); go_simp); try with_reducible rfl)
      (try simp only [Act.put, List.getElem_toArray, List.getElem_cons_zero, List.getElem_cons_succ, List.setIfInBounds_toArray, List.set_cons_zero, List.set_cons_succ])
      refine wpAnyH_take (i := 24) (v := ?_) rfl (by kernel_rfl) (by kernel_rfl) (by kernel_rfl) (fun _ _ _ h => h) (Or.inl ⟨by rfl, ?_⟩) (by assumption) ?_
      rotate_left
      focus ((intro w hSw; (try dsimp only at hSw); go_simp); try with_reducible rfl)
      (try simp only [Act.put, List.getElem_toArray, List.getElem_cons_zero, List.getElem_cons_succ, List.setIfInBounds_toArray, List.set_cons_zero, List.set_cons_succ])
      refine wpAnyH_done (by kernel_rfl) ?_ _
      refine NoPanic.normal ?_
      go_wp2_with fail
      go_loopw [8] (fun iv wr => ∃ k : Nat, iv = .int .i64 k ∧ k ≤ m ∧ Hid (OwnI wr W.heap.size ga gc m) ∧ Hid (Duo W nb rb N' N' (fun k => BlkOf ga k) wr)) (fun iv _ => m - (intOf iv).toNat)
      case atStart => exact ⟨0, rfl, Nat.zero_le _, Lib.hid (HOI.out.same fun k hk => by rfl), Lib.hid (Duo.fewer (K := fun k => False ∨ BlkOf ga k) (by assumption) (fun k hk => .inr hk))⟩
      case round =>
        obtain ⟨k, rfl, hk, HO, HD5⟩ := hrel
        have hk0 : (0 : Int) ≤ (k : Int) := by omega
        by_cases hlk : k < m
        · have hlk' : (k : Int) < m := by omega
          obtain ⟨g, z, rfl, hg, hcell, hfr, hset⟩ := HO.out.cell hlk
          have HSET := Lib.hid hset
          have HWG := Lib.hid (HWO.out g ⟨_, rfl, rfl⟩)
          clear hset
          go_wp2_with fail
          go_roundw
          case rel => exact ⟨k + 1, by go_num, by omega, Lib.hid (HSET.out _), Lib.hid (HD5.out.write (p := ⟨g, k, none⟩) ⟨_, rfl, rfl⟩ HWG.out _)⟩
          case measure => simp [intOf]; omega
        · have hlk' : ¬ (k : Int) < m := by omega
          go_wp2_with fail
          go_roundw
          case rel => exact ⟨j + 1, N', by go_num, by omega, by omega, HI2, Lib.hid (HD5.out.fewer (fun k hk => hk.elim))⟩
          case measure => simp [intOf]; omega
    · have HFI : Hid (Fits N) := Lib.hid (fits_of HI.out.1 HI.out.2 (by omega))
      have hNl : N.length ≤ 80 := by have := HI.out.1; omega
      have htest : (j < n ∧ ¬ j < 80) ∨ ¬ j < n := by omega
      obtain ⟨nl, hnl⟩ : ∃ m, N.length = m := ⟨_, rfl⟩
      have HNL := Lib.hid hnl
      rw [hnl] at hNl
      clear hlt HI hnl
      rcases htest with ⟨ht3, ht4⟩ | ht3
      all_goals
        go_wp2_with fail
        go_loopw [9] (fun iv wr => ∃ k : Nat, iv = .int .i64 k ∧ k ≤ nl + 2 ∧ Hid (Duo W nb rb N N (fun _ => False) wr)) (fun iv _ => nl + 2 - (intOf iv).toNat)
      all_goals try (case atStart => exact ⟨0, rfl, Nat.zero_le _, HD⟩)
      all_goals
        obtain ⟨k, rfl, hk, HD6⟩ := hrel
        obtain ⟨la, lc, hrl, hlc⟩ := duo_lines HD6.out
        rw [HNL.out] at hlc
        have hk0 : (0 : Int) ≤ (k : Int) := by omega
        by_cases hlk : k ≤ nl + 1
        rotate_left
        · have hlk' : ¬ (k : Int) ≤ (nl : Int) + 1 := by omega
          go_wp2_with fail
          refine (works_h HD6.out.is).mono ?_; rintro e w9 ⟨rfl, h9⟩
          have H9 := Lib.hid h9
          clear h9
          go_wp2_with fail
          go_ret
          exact ⟨by rfl, H9.out⟩
        have hlk' : (k : Int) ≤ (nl : Int) + 1 := by omega
        have HKW : Hid ((Lit.int .i64 (k : Int)).wf = true) := Lib.hid (wf_i64 (by omega) (by omega))
        have hm63 := gotN_len HFI.out (k : Int)
        obtain ⟨gl, hgl⟩ : ∃ l, gotN N (k : Int) = l := ⟨_, rfl⟩
        obtain ⟨fl, hfl⟩ : ∃ l, flightN N (k : Int) = l := ⟨_, rfl⟩
        obtain ⟨ol, hol⟩ : ∃ l, overN N (k : Int) = l := ⟨_, rfl⟩
        have HGL := Lib.hid hgl
        have HFL := Lib.hid hfl
        have HOL := Lib.hid hol
        rw [hgl] at hm63
        obtain ⟨m, hm⟩ : ∃ m, gl.length = m := ⟨_, rfl⟩
        have HM := Lib.hid hm
        rw [hm] at hm63
        have t1 := strOf_bne gl
        have t2 := flight_bne fl
        have t3 := bool_bne ol
        have HD6d := Lib.hid (HD6.out.drew)
        clear hgl hfl hol hm
        go_wp2_with fail
        refine wp_region_noPanic ?_
        refine wp_region_held_drew (S := fun u : World => True) (by kernel_rfl) (trivial) (fun hHeld => ?_)
        refine wpAnyH_take (i := 0) (v := ?_) rfl (by kernel_rfl) (by kernel_rfl) (by kernel_rfl) (fun _ _ _ h => h) (Or.inl ⟨by rfl, ?_⟩) (by assumption) ?_
        rotate_left
        focus ((intro w hSw; (try dsimp only at hSw); go_simp); try with_reducible rfl)
        (try simp only [Act.put, List.getElem_toArray, List.getElem_cons_zero, List.getElem_cons_succ, List.setIfInBounds_toArray, List.set_cons_zero, List.set_cons_succ])
        refine wpAnyH_take (i := 1) (v := ?_) rfl (by kernel_rfl) (by kernel_rfl) (by kernel_rfl) (fun _ _ _ h => h) (Or.inl ⟨by rfl, ?_⟩) (by assumption) ?_
        rotate_left
        focus ((intro w hSw; (try dsimp only at hSw); go_simp); try with_reducible rfl)
        (try simp only [Act.put, List.getElem_toArray, List.getElem_cons_zero, List.getElem_cons_succ, List.setIfInBounds_toArray, List.set_cons_zero, List.set_cons_succ])
        refine wpAnyH_take (i := 4) (v := ?_) rfl (by kernel_rfl) (by kernel_rfl) (by kernel_rfl) (fun _ _ _ h => h) (Or.inl ⟨by rfl, ?_⟩) (by assumption) ?_
        rotate_left
        focus ((intro w hSw; (try dsimp only at hSw); go_simp); try with_reducible rfl)
        (try simp only [Act.put, List.getElem_toArray, List.getElem_cons_zero, List.getElem_cons_succ, List.setIfInBounds_toArray, List.set_cons_zero, List.set_cons_succ])
        refine wpAnyH_take (i := 5) (v := ?_) rfl (by kernel_rfl) (by kernel_rfl) (by kernel_rfl) (fun _ _ _ h => h) (Or.inl ⟨by rfl, ?_⟩) (by assumption) ?_
        rotate_left
        focus ((intro w hSw; (try dsimp only at hSw); go_simp); try with_reducible rfl)
        (try simp only [Act.put, List.getElem_toArray, List.getElem_cons_zero, List.getElem_cons_succ, List.setIfInBounds_toArray, List.set_cons_zero, List.set_cons_succ])
        refine wpAnyH_ready (rs := [2]) (by kernel_rfl) (by simp) ?_
        refine AllReadyH.cons rfl (fun K hK => ?_) AllReadyH.nil
        go_simp
        go_at_call 18
        refine (duo_got HD6d.out HFI.out (k : Int) HKW.out).mono ?_; rintro e w5 ⟨ga, gc, rfl, hib, hd5, hb5⟩
        rw [HGL.out, HM.out]
        have HIB := Lib.hid hib
        have HD5 := Lib.hid hd5
        clear hib hd5 hb5
        refine hK.out _ _ (trivial) (fun hHeld => ?_)
        clear hK K
        (try simp only [Act.put, List.getElem_toArray, List.getElem_cons_zero, List.getElem_cons_succ, List.setIfInBounds_toArray, List.set_cons_zero, List.set_cons_succ])
        have HV1d : Hid (∀ u : World, u = w5 → (convert 30 9 (.slice ga m gc)).run Try.prog u = .ok (.string (strOf gl)) u) := Lib.hid (fun u hu => by subst hu; have h1 := HIB.out; rw [HGL.out] at h1; have := conv_cells _ ga gc _ gl h1.cells; rw [HM.out] at this; exact this)
        refine wpAnyH_more (S' := fun u : World => (convert 30 9 (.slice ga m gc)).run Try.prog u = .ok (.string (strOf gl)) u) (fun u h => trivial) _ _ _ _ ?_
        have hHeld2 : (fun u : World => (convert 30 9 (.slice ga m gc)).run Try.prog u = .ok (.string (strOf gl)) u) _ := HV1d.out _ rfl
        refine wpAnyH_take (i := 3) (v := ?_) rfl (by kernel_rfl) (by kernel_rfl) (by kernel_rfl) (fun _ _ _ h => h) (Or.inl ⟨by rfl, ?_⟩) (by assumption) ?_
        rotate_left
        focus ((intro w hSw; (try dsimp only at hSw); go_simp); try with_reducible rfl)
        (try simp only [Act.put, List.getElem_toArray, List.getElem_cons_zero, List.getElem_cons_succ, List.setIfInBounds_toArray, List.set_cons_zero, List.set_cons_succ])
        refine wpAnyH_ready (rs := [6]) (by kernel_rfl) (by simp) ?_
        refine AllReadyH.cons rfl (fun K hK => ?_) AllReadyH.nil
        go_simp
        go_at_call 19
        refine (duo_rgot HD5.out HFI.out (k : Int)).mono ?_; rintro e w6 ⟨ra, rc, rfl, hrc, rfl⟩
        have HRC := Lib.hid hrc
        rw [HGL.out, HM.out]
        refine hK.out _ _ (HV1d.out _ rfl) (fun hHeld => ?_)
        clear hK K
        (try simp only [Act.put, List.getElem_toArray, List.getElem_cons_zero, List.getElem_cons_succ, List.setIfInBounds_toArray, List.set_cons_zero, List.set_cons_succ])
        have HV2 : Hid (∀ u : World, u = w5 → (convert 30 9 (.slice ra m rc)).run Try.prog u = .ok (.string (strOf gl)) u) := Lib.hid (fun u hu => by subst hu; have h1 := HRC.out; rw [HGL.out] at h1; have := conv_cells _ ra rc _ gl h1; rw [HM.out] at this; exact this)
        refine wpAnyH_more (S' := fun u : World => ((convert 30 9 (.slice ga m gc)).run Try.prog u = .ok (.string (strOf gl)) u) ∧ (convert 30 9 (.slice ra m rc)).run Try.prog u = .ok (.string (strOf gl)) u) (fun u h => h.1) _ _ _ _ ?_
        have hHeld3 : (fun u : World => ((convert 30 9 (.slice ga m gc)).run Try.prog u = .ok (.string (strOf gl)) u) ∧ (convert 30 9 (.slice ra m rc)).run Try.prog u = .ok (.string (strOf gl)) u) _ := ⟨HV1d.out _ rfl, HV2.out _ rfl⟩
        refine wpAnyH_take (i := 7) (v := ?_) rfl (by kernel_rfl) (by kernel_rfl) (by kernel_rfl) (fun _ _ _ h => h) (Or.inl ⟨by rfl, ?_⟩) (by assumption) ?_
        rotate_left
        focus ((intro w hSw; (try dsimp only at hSw); go_simp); try with_reducible rfl)
        (try simp only [Act.put, List.getElem_toArray, List.getElem_cons_zero, List.getElem_cons_succ, List.setIfInBounds_toArray, List.set_cons_zero, List.set_cons_succ])
        refine wpAnyH_take (i := 8) (v := ?_) rfl (by kernel_rfl) (by kernel_rfl) (by kernel_rfl) (fun _ _ _ h => h) (Or.inl ⟨by rfl, ?_⟩) (by assumption) ?_
        rotate_left
        focus ((intro w hSw; (try dsimp only at hSw); go_simp); try with_reducible rfl)
        (try simp only [Act.put, List.getElem_toArray, List.getElem_cons_zero, List.getElem_cons_succ, List.setIfInBounds_toArray, List.set_cons_zero, List.set_cons_succ])
        refine wpAnyH_take (i := 9) (v := ?_) rfl (by kernel_rfl) (by kernel_rfl) (by kernel_rfl) (fun _ _ _ h => h) (Or.inl ⟨by rfl, ?_⟩) (by assumption) ?_
        rotate_left
        focus ((intro w hSw; (try dsimp only at hSw); go_simp); try with_reducible rfl)
        (try simp only [Act.put, List.getElem_toArray, List.getElem_cons_zero, List.getElem_cons_succ, List.setIfInBounds_toArray, List.set_cons_zero, List.set_cons_succ])
        refine wpAnyH_take (i := 10) (v := ?_) rfl (by kernel_rfl) (by kernel_rfl) (by kernel_rfl) (fun _ _ _ h => h) (Or.inl ⟨by rfl, ?_⟩) (by assumption) ?_
        rotate_left
        focus ((intro w hSw; (try dsimp only at hSw); go_simp); try with_reducible rfl)
        (try simp only [Act.put, List.getElem_toArray, List.getElem_cons_zero, List.getElem_cons_succ, List.setIfInBounds_toArray, List.set_cons_zero, List.set_cons_succ])
        refine wpAnyH_take (i := 11) (v := ?_) rfl (by kernel_rfl) (by kernel_rfl) (by kernel_rfl) (fun _ _ _ h => h) (Or.inl ⟨by rfl, ?_⟩) (by assumption) ?_
        rotate_left
        focus ((intro w hSw; (try dsimp only at hSw); go_simp); try with_reducible rfl)
        (try simp only [Act.put, List.getElem_toArray, List.getElem_cons_zero, List.getElem_cons_succ, List.setIfInBounds_toArray, List.set_cons_zero, List.set_cons_succ])
        refine wpAnyH_take (i := 13) (v := ?_) rfl (by kernel_rfl) (by kernel_rfl) (by kernel_rfl) (fun _ _ _ h => h) (Or.inl ⟨by rfl, ?_⟩) (by assumption) ?_
        rotate_left
        focus ((intro w hSw; (try dsimp only at hSw); go_simp); try with_reducible rfl)
        (try simp only [Act.put, List.getElem_toArray, List.getElem_cons_zero, List.getElem_cons_succ, List.setIfInBounds_toArray, List.set_cons_zero, List.set_cons_succ])
        refine wpAnyH_take (i := 14) (v := ?_) rfl (by kernel_rfl) (by kernel_rfl) (by kernel_rfl) (fun _ _ _ h => h) (Or.inl ⟨by rfl, ?_⟩) (by assumption) ?_
        rotate_left
        focus ((intro w hSw; (try dsimp only at hSw); go_simp); try with_reducible rfl)
        (try simp only [Act.put, List.getElem_toArray, List.getElem_cons_zero, List.getElem_cons_succ, List.setIfInBounds_toArray, List.set_cons_zero, List.set_cons_succ])
        refine wpAnyH_ready (rs := [12]) (by kernel_rfl) (by simp) ?_
        refine AllReadyH.cons rfl (fun K hK => ?_) AllReadyH.nil
        go_simp
        go_at_call 11
        refine (duo_flight HD5.out (k : Int) HKW.out).mono ?_; rintro e w7 ⟨rfl, rfl⟩
        rw [HFL.out]
        refine hK.out _ _ (⟨HV1d.out _ rfl, HV2.out _ rfl⟩) (fun hHeld => ?_)
        clear hK K
        (try simp only [Act.put, List.getElem_toArray, List.getElem_cons_zero, List.getElem_cons_succ, List.setIfInBounds_toArray, List.set_cons_zero, List.set_cons_succ])
        refine wpAnyH_ready (rs := [15]) (by kernel_rfl) (by simp) ?_
        refine AllReadyH.cons rfl (fun K hK => ?_) AllReadyH.nil
        go_simp
        go_at_call 20
        refine (duo_rflight HD5.out HFI.out (k : Int)).mono ?_; rintro e w7 ⟨rfl, rfl⟩
        rw [HFL.out]
        refine hK.out _ _ (⟨HV1d.out _ rfl, HV2.out _ rfl⟩) (fun hHeld => ?_)
        clear hK K
        (try simp only [Act.put, List.getElem_toArray, List.getElem_cons_zero, List.getElem_cons_succ, List.setIfInBounds_toArray, List.set_cons_zero, List.set_cons_succ])
        refine wpAnyH_take (i := 16) (v := ?_) rfl (by kernel_rfl) (by kernel_rfl) (by kernel_rfl) (fun _ _ _ h => h) (Or.inl ⟨by rfl, ?_⟩) (by assumption) ?_
        rotate_left
        focus ((intro w hSw; (try dsimp only at hSw); go_simp); try with_reducible rfl)
        (try simp only [Act.put, List.getElem_toArray, List.getElem_cons_zero, List.getElem_cons_succ, List.setIfInBounds_toArray, List.set_cons_zero, List.set_cons_succ])
        refine wpAnyH_take (i := 17) (v := ?_) rfl (by kernel_rfl) (by kernel_rfl) (by kernel_rfl) (fun _ _ _ h => h) (Or.inl ⟨by rfl, ?_⟩) (by assumption) ?_
        rotate_left
        focus ((intro w hSw; (try dsimp only at hSw); go_simp); try with_reducible rfl)
        (try simp only [Act.put, List.getElem_toArray, List.getElem_cons_zero, List.getElem_cons_succ, List.setIfInBounds_toArray, List.set_cons_zero, List.set_cons_succ])
        refine wpAnyH_take (i := 18) (v := ?_) rfl (by kernel_rfl) (by kernel_rfl) (by kernel_rfl) (fun _ _ _ h => h) (Or.inl ⟨by rfl, ?_⟩) (by assumption) ?_
        rotate_left
        focus ((intro w hSw; (try dsimp only at hSw); go_simp); try with_reducible rfl)
        (try simp only [Act.put, List.getElem_toArray, List.getElem_cons_zero, List.getElem_cons_succ, List.setIfInBounds_toArray, List.set_cons_zero, List.set_cons_succ])
        refine wpAnyH_take (i := 19) (v := ?_) rfl (by kernel_rfl) (by kernel_rfl) (by kernel_rfl) (fun _ _ _ h => h) (Or.inl ⟨by rfl, ?_⟩) (by assumption) ?_
        rotate_left
        focus ((intro w hSw; (try dsimp only at hSw); go_simp); try with_reducible rfl)
        (try simp only [Act.put, List.getElem_toArray, List.getElem_cons_zero, List.getElem_cons_succ, List.setIfInBounds_toArray, List.set_cons_zero, List.set_cons_succ])
        refine wpAnyH_take (i := 20) (v := ?_) rfl (by kernel_rfl) (by kernel_rfl) (by kernel_rfl) (fun _ _ _ h => h) (Or.inl ⟨by rfl, ?_⟩) (by assumption) ?_
        rotate_left
        focus ((intro w hSw; (try dsimp only at hSw); go_simp); try with_reducible rfl)
        (try simp only [Act.put, List.getElem_toArray, List.getElem_cons_zero, List.getElem_cons_succ, List.setIfInBounds_toArray, List.set_cons_zero, List.set_cons_succ])
        refine wpAnyH_take (i := 22) (v := ?_) rfl (by kernel_rfl) (by kernel_rfl) (by kernel_rfl) (fun _ _ _ h => h) (Or.inl ⟨by rfl, ?_⟩) (by assumption) ?_
        rotate_left
        focus ((intro w hSw; (try dsimp only at hSw); go_simp); try with_reducible rfl)
        (try simp only [Act.put, List.getElem_toArray, List.getElem_cons_zero, List.getElem_cons_succ, List.setIfInBounds_toArray, List.set_cons_zero, List.set_cons_succ])
        refine wpAnyH_take (i := 23) (v := ?_) rfl (by kernel_rfl) (by kernel_rfl) (by kernel_rfl) (fun _ _ _ h => h) (Or.inl ⟨by rfl, ?_⟩) (by assumption) ?_
        rotate_left
        focus ((intro w hSw; (try dsimp only at hSw); go_simp); try with_reducible rfl)
        (try simp only [Act.put, List.getElem_toArray, List.getElem_cons_zero, List.getElem_cons_succ, List.setIfInBounds_toArray, List.set_cons_zero, List.set_cons_succ])
        refine wpAnyH_ready (rs := [21]) (by kernel_rfl) (by simp) ?_
        refine AllReadyH.cons rfl (fun K hK => ?_) AllReadyH.nil
        go_simp
        go_at_call 15
        refine (duo_over HD5.out (k : Int) HKW.out).mono ?_; rintro e w7 ⟨rfl, rfl⟩
        rw [HOL.out]
        refine hK.out _ _ (⟨HV1d.out _ rfl, HV2.out _ rfl⟩) (fun hHeld => ?_)
        clear hK K
        (try simp only [Act.put, List.getElem_toArray, List.getElem_cons_zero, List.getElem_cons_succ, List.setIfInBounds_toArray, List.set_cons_zero, List.set_cons_succ])
        refine wpAnyH_ready (rs := [24]) (by kernel_rfl) (by simp) ?_
        refine AllReadyH.cons rfl (fun K hK => ?_) AllReadyH.nil
        go_simp
        go_at_call 21
        refine (duo_rover HD5.out HFI.out (k : Int)).mono ?_; rintro e w7 ⟨rfl, rfl⟩
        rw [HOL.out]
        refine hK.out _ _ (⟨HV1d.out _ rfl, HV2.out _ rfl⟩) (fun hHeld => ?_)
        clear hK K
        (try simp only [Act.put, List.getElem_toArray, List.getElem_cons_zero, List.getElem_cons_succ, List.setIfInBounds_toArray, List.set_cons_zero, List.set_cons_succ])
        refine wpAnyH_take (i := 25) (v := ?_) rfl (by kernel_rfl) (by kernel_rfl) (by kernel_rfl) (fun _ _ _ h => h) (Or.inl ⟨by rfl, ?_⟩) (by assumption) ?_
        rotate_left
        focus ((intro w hSw; (try dsimp only at hSw); go_simp); try with_reducible rfl)
        (try simp only [Act.put, List.getElem_toArray, List.getElem_cons_zero, List.getElem_cons_succ, List.setIfInBounds_toArray, List.set_cons_zero, List.set_cons_succ])
        refine wpAnyH_take (i := 26) (v := ?_) rfl (by kernel_rfl) (by kernel_rfl) (by kernel_rfl) (fun _ _ _ h => h) (Or.inl ⟨by rfl, ?_⟩) (by assumption) ?_
        rotate_left
        focus ((intro w hSw; (try dsimp only at hSw); go_simp); try with_reducible rfl)
        (try simp only [Act.put, List.getElem_toArray, List.getElem_cons_zero, List.getElem_cons_succ, List.setIfInBounds_toArray, List.set_cons_zero, List.set_cons_succ])
        refine wpAnyH_done (by kernel_rfl) ?_ _
        refine NoPanic.normal ?_
        go_wp2_with fail
        go_roundw
        case rel => exact ⟨k + 1, by go_num, by omega, Lib.hid (Duo.fewer (K := fun k => False ∨ BlkOf ga k) HD5.out (fun k hk => hk.elim))⟩
        case measure => simp [intOf]; omega
end Go.Proofs.Yteopfknoemifgaa
